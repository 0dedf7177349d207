/-
  The law's nodes: the first nodes that come.
-/
import Derived.Test.YtgnacecplaemlaaW17
namespace Go.Proofs.Ytgnacecplaemlaa
open AI
set_option linter.unusedSimpArgs false
theorem bsl49z (h : AH) : bslV Try.prog 47 1 [(0, (.agg [.int .i64 0, .str [], .bool false, .bool false, .nilSl, .nilSl, .nilSl, .nilSl, .nilSl, .nilSl]))] h = some (.sl h.next 0 1 10 (some 1), h.alloc [.int .i64 0, .str [], .bool false, .bool false, .nilSl, .nilSl, .nilSl, .nilSl, .nilSl, .nilSl]) := by kernel_rfl
theorem ix47 (id len : Nat) (i : Nat) (cc : Option Nat) (hi : i < len) : aindexAt Try.prog 47 (.sl id 0 len 10 cc) (.int .i64 (i : Int)) = some (.ptr id (0 + i * 10)) := by
  unfold aindexAt
  rw [u47]
  simp only [z49]
  rw [if_pos ⟨trivial, by omega, by omega⟩, Int.toNat_natCast]
theorem flat_cells (l : List Nd) : (l.map Nd.cells).flatten.length = l.length * 10 := by
  rw [Sl.flat_len (es := 10) (fun x hx => by obtain ⟨c, _, rfl⟩ := List.mem_map.mp hx; exact c.cells_len), List.length_map]
theorem out52 {h : AH} {p pm N : Nat} {tv : AV} {pre : List Nd} {x : Nd} {most : Int} (o : Out h p tv 10 (pre.map Nd.cells).flatten N) (hN : N ≤ h.next) (hx : atoms x.cells = true) (hm : Has h pm 0 [.int .i64 most]) (hF : ¬ OutF p tv pm)
    (hlen : pre.length + 1 ≤ 1048576) (n : Nat) :
    ∃ s' h', X (n + 1) (.func 52) [.agg x.cells, .ptr p 0, .ptr pm 0] h = some (.bool (decide (((pre.length + 1 : Nat) : Int) < most)), h') ∧ Out h' p s' 10 ((pre ++ [x]).map Nd.cells).flatten N ∧ OS h h' p tv s' := by
  have q1 : Quiet h (h.alloc x.cells) := Other.alloc _ _ _
  have H1 := Has.new h x.cells
  have n1 : (h.alloc x.cells).next = h.next + 1 := rfl
  have bx : boxV (.agg x.cells) h = some (.ptr h.next 0, h.alloc x.cells) := box_agg h x.cells
  generalize h.alloc x.cells = h1 at *
  have o1 := o.quiet q1
  have c1 := o1.cell
  have l1 := ldS H1 (n := 10) x.cells_len
  have q2 : Quiet h1 (h1.alloc [.int .i64 0, .str [], .bool false, .bool false, .nilSl, .nilSl, .nilSl, .nilSl, .nilSl, .nilSl]) := Other.alloc _ _ _
  have n2 : (h1.alloc [.int .i64 0, .str [], .bool false, .bool false, .nilSl, .nilSl, .nilSl, .nilSl, .nilSl, .nilSl]).next = h1.next + 1 := rfl
  have bz := bsl49z h1
  have Sz : Sl (h1.alloc [.int .i64 0, .str [], .bool false, .bool false, .nilSl, .nilSl, .nilSl, .nilSl, .nilSl, .nilSl]) (.sl h1.next 0 1 10 (some 1)) 10 [[.int .i64 0, .str [], .bool false, .bool false, .nilSl, .nilSl, .nilSl, .nilSl, .nilSl, .nilSl]] :=
    Sl.of_has (L := [[.int .i64 0, .str [], .bool false, .bool false, .nilSl, .nilSl, .nilSl, .nilSl, .nilSl, .nilSl]]) (by simp) (Has.new _ _)
  generalize h1.alloc [.int .i64 0, .str [], .bool false, .bool false, .nilSl, .nilSl, .nilSl, .nilSl, .nilSl, .nilSl] = h2 at *
  have o2 := o1.quiet q2
  have c2 := o2.cell
  have l2 := ldS (H1.quiet q2) (n := 10) x.cells_len
  have hfl := flat_cells pre
  have hal : alen Try.prog 47 tv = some pre.length := by
    rw [(o1.own.sl (L := pre.map Nd.cells) (fun x hx => by obtain ⟨c, _, rfl⟩ := List.mem_map.mp hx; exact c.cells_len) (by omega)).alen u47, List.length_map]
  obtain ⟨s', h3, a1, a2, _, a4, a3⟩ := own_app (x := .sl h1.next 0 1 10 (some 1)) (new := [.int .i64 0, .str [], .bool false, .bool false, .nilSl, .nilSl, .nilSl, .nilSl, .nilSl, .nilSl]) (n := 1) o2.own (by omega) el49 u47 u47 rfl rfl Sz.first rfl rfl (by simp only [List.length_cons, List.length_nil]; omega)
  have hnp : ¬ SlF tv p := by
    rintro ⟨off, len, es', c, rfl⟩
    rcases o.own with ⟨e, _⟩ | ⟨id, len', c', e, _, _, _⟩
    · cases e
    · injection e with e1 e2 e3 e4 e5
      subst e4
      exact o.ne _ _ _ _ rfl rfl
  have R3 := o2.row.keep a3 hnp
  rcases a2 with ⟨_, e⟩ | ⟨id, len, c, rfl, e2, e3, R⟩
  · simp at e
  have hlen2 : len = pre.length + 1 := by
    simp only [List.length_append, List.length_cons, List.length_nil, hfl] at e2
    omega
  subst hlen2
  have hidp : id ≠ p := by
    rcases a4 id 0 _ _ rfl with ⟨off', len', c', e'⟩ | h3
    · exact o.ne _ _ _ _ e'
    · have := o.row.1; omega
  obtain ⟨h4, w1, w2, w3, w4⟩ := Row.write (a := (pre.map Nd.cells).flatten) (c := []) (by simpa using R) x.cells (by rw [x.cells_len]; rfl)
  obtain ⟨h5, x1, x2, x3, x4⟩ := row_set (t := 47) (v := .sl id 0 (pre.length + 1) 10 c) z47 (R3.keep w4 hidp.symm) rfl
  have hix := ix47 id (pre.length + 1) pre.length c (by omega)
  rw [hfl] at w1
  have sx := stV_agg (t := 49) (n := 10) (l := x.cells) z49 x.cells_len hx id (0 + pre.length * 10) h3
  rw [w1] at sx
  simp only [Option.map_some] at sx
  have n3 := a3.next
  -- what stands where, behind it
  have O5 : Out h5 p (.sl id 0 (pre.length + 1) 10 c) 10 ((pre ++ [x]).map Nd.cells).flatten N := by
    refine ⟨x3, .inr ⟨id, _, _, rfl, by rw [flat_cells]; simp, e3, ?_⟩, o.le, fun id2 off2 len2 c2 e => by injection e with e; rw [← e]; exact hidp⟩
    have hq : ((pre ++ [x]).map Nd.cells).flatten = (pre.map Nd.cells).flatten ++ x.cells ++ [] := by simp
    rw [hq]
    exact w3.keep x4 hidp
  have S5 : OS h h5 p tv (.sl id 0 (pre.length + 1) 10 c) := by
    have hG : ∀ j, j = id → OutF p tv j ∨ h.next ≤ j := fun j e => by
      subst e
      rcases a4 _ 0 _ _ rfl with ⟨off', len', c', e'⟩ | h3
      · exact .inl (.inr ⟨_, _, _, _, e'⟩)
      · exact .inr (by omega)
    refine ⟨?_, fun j hj => ?_⟩
    · have y1 : Other (OutF p tv) h h3 := (q1.trans q2).any.trans (a3.mono fun j _ hj => .inr hj)
      exact (y1.plus w4 hG).trans (x4.mono fun j _ e => .inl e)
    · rcases hj with rfl | ⟨off, len, es, c3, e⟩
      · exact .inl (.inl rfl)
      · injection e with e
        exact hG j e.symm
  have c5 := O5.cell
  have hal5 : alen Try.prog 47 (.sl id 0 (pre.length + 1) 10 c) = some (pre.length + 1) := by kernel_rfl
  have m5 : h5.cell? pm 0 = some (.int .i64 most) := (hm.keep S5.oth hF).cell (i := 0) rfl
  rw [ent52]
  unfold cd52
  have h0 : aops Try.prog (X n) (rg Try.f52 1) [0, 1, 2, 3, 4, 5, 6, 7] [.agg x.cells, .ptr p 0, .ptr pm 0, .ptr h.next 0, .bool false, .tup [], .tup [], .tup [], .tup [], .tup [], .tup [], .tup [], .tup [], .tup [], .tup []] h1 =
      some ([.agg x.cells, .ptr p 0, .ptr pm 0, .ptr h.next 0, .bool false, tv, .agg x.cells, .int .i64 (pre.length : Int), .sl h1.next 0 1 10 (some 1), .sl id 0 (pre.length + 1) 10 c, .ptr id (0 + pre.length * 10), .tup [], .tup [], .tup [], .tup []], h5) := by
    simp (implicitDefEqProofs := false) only [run_seq, run_cond, opsS_cons, opsS_nil, sameH_f, sameH_t, run_block, run_loop, run_exit, run_ret, run_skip, ops_cons, ops_nil, ev_tmp, pureS_some, heapS_some, heapN_some, gdS_tt, gdS_ff, gdS_tf, gdS_ft, gdS_undef, List.getD_cons_succ, List.getD_cons_zero, List.set_cons_succ, List.set_cons_zero, Option.bind_some, regR_some, seqR_normal, seqR_ret, seqR_exit, fin0_ret, fin0_normal, fin1_ret, fin1_normal, finN_ret, finN_normal, List.map_cons, List.map_nil, lenV_some, pickV_t, pickV_f, callV_func, callV_yield, extV_tup, condR_true, condR_false, blockR_normal, blockR_ret, blockR_exit, if_true, List.nil_append, List.append_nil, List.cons_append, List.getElem?_cons_zero, List.getElem?_cons_succ, loopR_normal, loopR_exit, loopR_ret, Option.map_some, ite_true, reduceIte, reg52_0, st52_0_0, st52_0_1, st52_1_0, st52_1_1, st52_1_2, st52_1_3, st52_1_4, st52_1_5, st52_1_6, st52_1_7, reg52_2, st52_2_0, st52_2_1, st52_2_2, st52_2_3, st52_2_4, ld47, c1, ld49, l1, hal, bz, a1, hix, sx, x1]
  have hd := drw52_1 52 (X n) n none _ _ h0
    (fun q hq => by
      simp only [List.mem_cons, List.not_mem_nil, or_false] at hq
      rcases hq with rfl | rfl
      · exact ⟨([.agg x.cells, .ptr p 0, .ptr pm 0, .ptr h.next 0, .bool false, .tup [], .tup [], .tup [], .tup [], .tup [], .tup [], .tup [], .tup [], .tup [], .tup []], h1), ([.agg x.cells, .ptr p 0, .ptr pm 0, .ptr h.next 0, .bool false, tv, .agg x.cells, .int .i64 (pre.length : Int), .tup [], .tup [], .tup [], .tup [], .tup [], .tup [], .tup []], h1), ([.agg x.cells, .ptr p 0, .ptr pm 0, .ptr h.next 0, .bool false, tv, .agg x.cells, .int .i64 (pre.length : Int), .sl h1.next 0 1 10 (some 1), .tup [], .tup [], .tup [], .tup [], .tup [], .tup []], h2), tv, by dsimp only; rw [rng52_1_0]; rfl,
          by dsimp only; rw [rng52_1_3]; simp (implicitDefEqProofs := false) only [run_seq, run_cond, opsS_cons, opsS_nil, sameH_f, sameH_t, run_block, run_loop, run_exit, run_ret, run_skip, ops_cons, ops_nil, ev_tmp, pureS_some, heapS_some, heapN_some, gdS_tt, gdS_ff, gdS_tf, gdS_ft, gdS_undef, List.getD_cons_succ, List.getD_cons_zero, List.set_cons_succ, List.set_cons_zero, Option.bind_some, regR_some, seqR_normal, seqR_ret, seqR_exit, fin0_ret, fin0_normal, fin1_ret, fin1_normal, finN_ret, finN_normal, List.map_cons, List.map_nil, lenV_some, pickV_t, pickV_f, callV_func, callV_yield, extV_tup, condR_true, condR_false, blockR_normal, blockR_ret, blockR_exit, if_true, List.nil_append, List.append_nil, List.cons_append, List.getElem?_cons_zero, List.getElem?_cons_succ, loopR_normal, loopR_exit, loopR_ret, Option.map_some, ite_true, reduceIte, reg52_0, st52_0_0, st52_0_1, st52_1_0, st52_1_1, st52_1_2, st52_1_3, st52_1_4, st52_1_5, st52_1_6, st52_1_7, reg52_2, st52_2_0, st52_2_1, st52_2_2, st52_2_3, st52_2_4, ld47, c1, ld49, l1, hal, bz],
          by dsimp only; rw [rng52_1_4]; simp (implicitDefEqProofs := false) only [run_seq, run_cond, opsS_cons, opsS_nil, sameH_f, sameH_t, run_block, run_loop, run_exit, run_ret, run_skip, ops_cons, ops_nil, ev_tmp, pureS_some, heapS_some, heapN_some, gdS_tt, gdS_ff, gdS_tf, gdS_ft, gdS_undef, List.getD_cons_succ, List.getD_cons_zero, List.set_cons_succ, List.set_cons_zero, Option.bind_some, regR_some, seqR_normal, seqR_ret, seqR_exit, fin0_ret, fin0_normal, fin1_ret, fin1_normal, finN_ret, finN_normal, List.map_cons, List.map_nil, lenV_some, pickV_t, pickV_f, callV_func, callV_yield, extV_tup, condR_true, condR_false, blockR_normal, blockR_ret, blockR_exit, if_true, List.nil_append, List.append_nil, List.cons_append, List.getElem?_cons_zero, List.getElem?_cons_succ, loopR_normal, loopR_exit, loopR_ret, Option.map_some, ite_true, reduceIte, reg52_0, st52_0_0, st52_0_1, st52_1_0, st52_1_1, st52_1_2, st52_1_3, st52_1_4, st52_1_5, st52_1_6, st52_1_7, reg52_2, st52_2_0, st52_2_1, st52_2_2, st52_2_3, st52_2_4, ld47, c1, ld49, l1, hal, bz],
          by dsimp only; rw [li52_1_0]; simp (implicitDefEqProofs := false) only [run_seq, run_cond, opsS_cons, opsS_nil, sameH_f, sameH_t, run_block, run_loop, run_exit, run_ret, run_skip, ops_cons, ops_nil, ev_tmp, pureS_some, heapS_some, heapN_some, gdS_tt, gdS_ff, gdS_tf, gdS_ft, gdS_undef, List.getD_cons_succ, List.getD_cons_zero, List.set_cons_succ, List.set_cons_zero, Option.bind_some, regR_some, seqR_normal, seqR_ret, seqR_exit, fin0_ret, fin0_normal, fin1_ret, fin1_normal, finN_ret, finN_normal, List.map_cons, List.map_nil, lenV_some, pickV_t, pickV_f, callV_func, callV_yield, extV_tup, condR_true, condR_false, blockR_normal, blockR_ret, blockR_exit, if_true, List.nil_append, List.append_nil, List.cons_append, List.getElem?_cons_zero, List.getElem?_cons_succ, loopR_normal, loopR_exit, loopR_ret, Option.map_some, ite_true, reduceIte, ld47, c1], by dsimp only; rw [li52_1_0]; simp (implicitDefEqProofs := false) only [run_seq, run_cond, opsS_cons, opsS_nil, sameH_f, sameH_t, run_block, run_loop, run_exit, run_ret, run_skip, ops_cons, ops_nil, ev_tmp, pureS_some, heapS_some, heapN_some, gdS_tt, gdS_ff, gdS_tf, gdS_ft, gdS_undef, List.getD_cons_succ, List.getD_cons_zero, List.set_cons_succ, List.set_cons_zero, Option.bind_some, regR_some, seqR_normal, seqR_ret, seqR_exit, fin0_ret, fin0_normal, fin1_ret, fin1_normal, finN_ret, finN_normal, List.map_cons, List.map_nil, lenV_some, pickV_t, pickV_f, callV_func, callV_yield, extV_tup, condR_true, condR_false, blockR_normal, blockR_ret, blockR_exit, if_true, List.nil_append, List.append_nil, List.cons_append, List.getElem?_cons_zero, List.getElem?_cons_succ, loopR_normal, loopR_exit, loopR_ret, Option.map_some, ite_true, reduceIte, ld47, c1], by dsimp only; rw [li52_1_0]; simp (implicitDefEqProofs := false) only [run_seq, run_cond, opsS_cons, opsS_nil, sameH_f, sameH_t, run_block, run_loop, run_exit, run_ret, run_skip, ops_cons, ops_nil, ev_tmp, pureS_some, heapS_some, heapN_some, gdS_tt, gdS_ff, gdS_tf, gdS_ft, gdS_undef, List.getD_cons_succ, List.getD_cons_zero, List.set_cons_succ, List.set_cons_zero, Option.bind_some, regR_some, seqR_normal, seqR_ret, seqR_exit, fin0_ret, fin0_normal, fin1_ret, fin1_normal, finN_ret, finN_normal, List.map_cons, List.map_nil, lenV_some, pickV_t, pickV_f, callV_func, callV_yield, extV_tup, condR_true, condR_false, blockR_normal, blockR_ret, blockR_exit, if_true, List.nil_append, List.append_nil, List.cons_append, List.getElem?_cons_zero, List.getElem?_cons_succ, loopR_normal, loopR_exit, loopR_ret, Option.map_some, ite_true, reduceIte, ld47, c2]⟩
      · exact ⟨([.agg x.cells, .ptr p 0, .ptr pm 0, .ptr h.next 0, .bool false, tv, .tup [], .tup [], .tup [], .tup [], .tup [], .tup [], .tup [], .tup [], .tup []], h1), ([.agg x.cells, .ptr p 0, .ptr pm 0, .ptr h.next 0, .bool false, tv, .agg x.cells, .int .i64 (pre.length : Int), .tup [], .tup [], .tup [], .tup [], .tup [], .tup [], .tup []], h1), ([.agg x.cells, .ptr p 0, .ptr pm 0, .ptr h.next 0, .bool false, tv, .agg x.cells, .int .i64 (pre.length : Int), .sl h1.next 0 1 10 (some 1), .tup [], .tup [], .tup [], .tup [], .tup [], .tup []], h2), .agg x.cells, by dsimp only; rw [rng52_1_1]; simp (implicitDefEqProofs := false) only [run_seq, run_cond, opsS_cons, opsS_nil, sameH_f, sameH_t, run_block, run_loop, run_exit, run_ret, run_skip, ops_cons, ops_nil, ev_tmp, pureS_some, heapS_some, heapN_some, gdS_tt, gdS_ff, gdS_tf, gdS_ft, gdS_undef, List.getD_cons_succ, List.getD_cons_zero, List.set_cons_succ, List.set_cons_zero, Option.bind_some, regR_some, seqR_normal, seqR_ret, seqR_exit, fin0_ret, fin0_normal, fin1_ret, fin1_normal, finN_ret, finN_normal, List.map_cons, List.map_nil, lenV_some, pickV_t, pickV_f, callV_func, callV_yield, extV_tup, condR_true, condR_false, blockR_normal, blockR_ret, blockR_exit, if_true, List.nil_append, List.append_nil, List.cons_append, List.getElem?_cons_zero, List.getElem?_cons_succ, loopR_normal, loopR_exit, loopR_ret, Option.map_some, ite_true, reduceIte, reg52_0, st52_0_0, st52_0_1, st52_1_0, st52_1_1, st52_1_2, st52_1_3, st52_1_4, st52_1_5, st52_1_6, st52_1_7, reg52_2, st52_2_0, st52_2_1, st52_2_2, st52_2_3, st52_2_4, ld47, c1],
          by dsimp only; rw [rng52_1_3]; simp (implicitDefEqProofs := false) only [run_seq, run_cond, opsS_cons, opsS_nil, sameH_f, sameH_t, run_block, run_loop, run_exit, run_ret, run_skip, ops_cons, ops_nil, ev_tmp, pureS_some, heapS_some, heapN_some, gdS_tt, gdS_ff, gdS_tf, gdS_ft, gdS_undef, List.getD_cons_succ, List.getD_cons_zero, List.set_cons_succ, List.set_cons_zero, Option.bind_some, regR_some, seqR_normal, seqR_ret, seqR_exit, fin0_ret, fin0_normal, fin1_ret, fin1_normal, finN_ret, finN_normal, List.map_cons, List.map_nil, lenV_some, pickV_t, pickV_f, callV_func, callV_yield, extV_tup, condR_true, condR_false, blockR_normal, blockR_ret, blockR_exit, if_true, List.nil_append, List.append_nil, List.cons_append, List.getElem?_cons_zero, List.getElem?_cons_succ, loopR_normal, loopR_exit, loopR_ret, Option.map_some, ite_true, reduceIte, reg52_0, st52_0_0, st52_0_1, st52_1_0, st52_1_1, st52_1_2, st52_1_3, st52_1_4, st52_1_5, st52_1_6, st52_1_7, reg52_2, st52_2_0, st52_2_1, st52_2_2, st52_2_3, st52_2_4, ld47, c1, ld49, l1, hal, bz],
          by dsimp only; rw [rng52_1_4]; simp (implicitDefEqProofs := false) only [run_seq, run_cond, opsS_cons, opsS_nil, sameH_f, sameH_t, run_block, run_loop, run_exit, run_ret, run_skip, ops_cons, ops_nil, ev_tmp, pureS_some, heapS_some, heapN_some, gdS_tt, gdS_ff, gdS_tf, gdS_ft, gdS_undef, List.getD_cons_succ, List.getD_cons_zero, List.set_cons_succ, List.set_cons_zero, Option.bind_some, regR_some, seqR_normal, seqR_ret, seqR_exit, fin0_ret, fin0_normal, fin1_ret, fin1_normal, finN_ret, finN_normal, List.map_cons, List.map_nil, lenV_some, pickV_t, pickV_f, callV_func, callV_yield, extV_tup, condR_true, condR_false, blockR_normal, blockR_ret, blockR_exit, if_true, List.nil_append, List.append_nil, List.cons_append, List.getElem?_cons_zero, List.getElem?_cons_succ, loopR_normal, loopR_exit, loopR_ret, Option.map_some, ite_true, reduceIte, reg52_0, st52_0_0, st52_0_1, st52_1_0, st52_1_1, st52_1_2, st52_1_3, st52_1_4, st52_1_5, st52_1_6, st52_1_7, reg52_2, st52_2_0, st52_2_1, st52_2_2, st52_2_3, st52_2_4, ld47, c1, ld49, l1, hal, bz],
          by dsimp only; rw [li52_1_1]; simp (implicitDefEqProofs := false) only [run_seq, run_cond, opsS_cons, opsS_nil, sameH_f, sameH_t, run_block, run_loop, run_exit, run_ret, run_skip, ops_cons, ops_nil, ev_tmp, pureS_some, heapS_some, heapN_some, gdS_tt, gdS_ff, gdS_tf, gdS_ft, gdS_undef, List.getD_cons_succ, List.getD_cons_zero, List.set_cons_succ, List.set_cons_zero, Option.bind_some, regR_some, seqR_normal, seqR_ret, seqR_exit, fin0_ret, fin0_normal, fin1_ret, fin1_normal, finN_ret, finN_normal, List.map_cons, List.map_nil, lenV_some, pickV_t, pickV_f, callV_func, callV_yield, extV_tup, condR_true, condR_false, blockR_normal, blockR_ret, blockR_exit, if_true, List.nil_append, List.append_nil, List.cons_append, List.getElem?_cons_zero, List.getElem?_cons_succ, loopR_normal, loopR_exit, loopR_ret, Option.map_some, ite_true, reduceIte, ld49, l1], by dsimp only; rw [li52_1_1]; simp (implicitDefEqProofs := false) only [run_seq, run_cond, opsS_cons, opsS_nil, sameH_f, sameH_t, run_block, run_loop, run_exit, run_ret, run_skip, ops_cons, ops_nil, ev_tmp, pureS_some, heapS_some, heapN_some, gdS_tt, gdS_ff, gdS_tf, gdS_ft, gdS_undef, List.getD_cons_succ, List.getD_cons_zero, List.set_cons_succ, List.set_cons_zero, Option.bind_some, regR_some, seqR_normal, seqR_ret, seqR_exit, fin0_ret, fin0_normal, fin1_ret, fin1_normal, finN_ret, finN_normal, List.map_cons, List.map_nil, lenV_some, pickV_t, pickV_f, callV_func, callV_yield, extV_tup, condR_true, condR_false, blockR_normal, blockR_ret, blockR_exit, if_true, List.nil_append, List.append_nil, List.cons_append, List.getElem?_cons_zero, List.getElem?_cons_succ, loopR_normal, loopR_exit, loopR_ret, Option.map_some, ite_true, reduceIte, ld49, l1], by dsimp only; rw [li52_1_1]; simp (implicitDefEqProofs := false) only [run_seq, run_cond, opsS_cons, opsS_nil, sameH_f, sameH_t, run_block, run_loop, run_exit, run_ret, run_skip, ops_cons, ops_nil, ev_tmp, pureS_some, heapS_some, heapN_some, gdS_tt, gdS_ff, gdS_tf, gdS_ft, gdS_undef, List.getD_cons_succ, List.getD_cons_zero, List.set_cons_succ, List.set_cons_zero, Option.bind_some, regR_some, seqR_normal, seqR_ret, seqR_exit, fin0_ret, fin0_normal, fin1_ret, fin1_normal, finN_ret, finN_normal, List.map_cons, List.map_nil, lenV_some, pickV_t, pickV_f, callV_func, callV_yield, extV_tup, condR_true, condR_false, blockR_normal, blockR_ret, blockR_exit, if_true, List.nil_append, List.append_nil, List.cons_append, List.getElem?_cons_zero, List.getElem?_cons_succ, loopR_normal, loopR_exit, loopR_ret, Option.map_some, ite_true, reduceIte, ld49, l2]⟩)
    (fun i hi => by
      simp only [List.mem_cons, List.not_mem_nil, or_false] at hi
      subst hi
      rw [siz52_1]
      exact ⟨([.agg x.cells, .ptr p 0, .ptr pm 0, .ptr h.next 0, .bool false, tv, .agg x.cells, .int .i64 (pre.length : Int), .sl h1.next 0 1 10 (some 1), .sl id 0 (pre.length + 1) 10 c, .ptr id (0 + pre.length * 10), .tup [], .tup [], .tup [], .tup []], h3), ([.agg x.cells, .ptr p 0, .ptr pm 0, .ptr h.next 0, .bool false, tv, .agg x.cells, .int .i64 (pre.length : Int), .sl h1.next 0 1 10 (some 1), .sl id 0 (pre.length + 1) 10 c, .ptr id (0 + pre.length * 10), .tup [], .tup [], .tup [], .tup []], h4), id, p,
        by rw [rng52_1_6]; simp (implicitDefEqProofs := false) only [run_seq, run_cond, opsS_cons, opsS_nil, sameH_f, sameH_t, run_block, run_loop, run_exit, run_ret, run_skip, ops_cons, ops_nil, ev_tmp, pureS_some, heapS_some, heapN_some, gdS_tt, gdS_ff, gdS_tf, gdS_ft, gdS_undef, List.getD_cons_succ, List.getD_cons_zero, List.set_cons_succ, List.set_cons_zero, Option.bind_some, regR_some, seqR_normal, seqR_ret, seqR_exit, fin0_ret, fin0_normal, fin1_ret, fin1_normal, finN_ret, finN_normal, List.map_cons, List.map_nil, lenV_some, pickV_t, pickV_f, callV_func, callV_yield, extV_tup, condR_true, condR_false, blockR_normal, blockR_ret, blockR_exit, if_true, List.nil_append, List.append_nil, List.cons_append, List.getElem?_cons_zero, List.getElem?_cons_succ, loopR_normal, loopR_exit, loopR_ret, Option.map_some, ite_true, reduceIte, reg52_0, st52_0_0, st52_0_1, st52_1_0, st52_1_1, st52_1_2, st52_1_3, st52_1_4, st52_1_5, st52_1_6, st52_1_7, reg52_2, st52_2_0, st52_2_1, st52_2_2, st52_2_3, st52_2_4, ld47, c1, ld49, l1, hal, bz, a1, hix],
        by rw [rng52_1_7]; simp (implicitDefEqProofs := false) only [run_seq, run_cond, opsS_cons, opsS_nil, sameH_f, sameH_t, run_block, run_loop, run_exit, run_ret, run_skip, ops_cons, ops_nil, ev_tmp, pureS_some, heapS_some, heapN_some, gdS_tt, gdS_ff, gdS_tf, gdS_ft, gdS_undef, List.getD_cons_succ, List.getD_cons_zero, List.set_cons_succ, List.set_cons_zero, Option.bind_some, regR_some, seqR_normal, seqR_ret, seqR_exit, fin0_ret, fin0_normal, fin1_ret, fin1_normal, finN_ret, finN_normal, List.map_cons, List.map_nil, lenV_some, pickV_t, pickV_f, callV_func, callV_yield, extV_tup, condR_true, condR_false, blockR_normal, blockR_ret, blockR_exit, if_true, List.nil_append, List.append_nil, List.cons_append, List.getElem?_cons_zero, List.getElem?_cons_succ, loopR_normal, loopR_exit, loopR_ret, Option.map_some, ite_true, reduceIte, reg52_0, st52_0_0, st52_0_1, st52_1_0, st52_1_1, st52_1_2, st52_1_3, st52_1_4, st52_1_5, st52_1_6, st52_1_7, reg52_2, st52_2_0, st52_2_1, st52_2_2, st52_2_3, st52_2_4, ld47, c1, ld49, l1, hal, bz, a1, hix, sx], by kernel_rfl, by kernel_rfl, hidp⟩)
  have w : ((pre.length : Int) + 1) = ((pre.length + 1 : Nat) : Int) := by omega
  simp (implicitDefEqProofs := false) only [run_seq, run_cond, opsS_cons, opsS_nil, sameH_f, sameH_t, run_block, run_loop, run_exit, run_ret, run_skip, ops_cons, ops_nil, ev_tmp, pureS_some, heapS_some, heapN_some, gdS_tt, gdS_ff, gdS_tf, gdS_ft, gdS_undef, List.getD_cons_succ, List.getD_cons_zero, List.set_cons_succ, List.set_cons_zero, Option.bind_some, regR_some, seqR_normal, seqR_ret, seqR_exit, fin0_ret, fin0_normal, fin1_ret, fin1_normal, finN_ret, finN_normal, List.map_cons, List.map_nil, lenV_some, pickV_t, pickV_f, callV_func, callV_yield, extV_tup, condR_true, condR_false, blockR_normal, blockR_ret, blockR_exit, if_true, List.nil_append, List.append_nil, List.cons_append, List.getElem?_cons_zero, List.getElem?_cons_succ, loopR_normal, loopR_exit, loopR_ret, Option.map_some, ite_true, reduceIte, reg52_0, st52_0_0, st52_0_1, st52_1_0, st52_1_1, st52_1_2, st52_1_3, st52_1_4, st52_1_5, st52_1_6, st52_1_7, reg52_2, st52_2_0, st52_2_1, st52_2_2, st52_2_3, st52_2_4, bx, hd, ld47, c5, hal5, ld3, m5, i_lss]
  exact ⟨_, _, rfl, O5, S5⟩
section
variable (p pm N : Nat) (most : Int) (all : List Nd)
def JN (pre : List Nd) (F : Nat → Prop) (h : AH) : Prop :=
  ∃ tv, Out h p tv 10 (pre.map Nd.cells).flatten N ∧ Has h pm 0 [.int .i64 most] ∧ ¬ OutF p tv pm ∧ (pre.length : Int) < most ∧ F = fun j => OutF p tv j ∨ j = pm
def JxN (pre : List Nd) (F : Nat → Prop) (h : AH) : Prop :=
  ∃ tv, Out h p tv 10 (pre.map Nd.cells).flatten N ∧ (pre.length : Int) = most ∧ (∃ post, all = pre ++ post) ∧ F = fun j => OutF p tv j
theorem inv_JN {hB : AH} (h1 : hB.next ≤ N) (h2 : hB.next ≤ pm) : Inv hB (JN p pm N most) where
  lt := fun pre F h j ⟨tv, a, b, c, d, e⟩ hj => by subst e; exact hj.elim (a.lt j) fun e => e ▸ b.1
  ge := fun pre F h j ⟨tv, a, b, c, d, e⟩ hj => by subst e; exact hj.elim (fun hj => Nat.le_trans h1 (a.ge j hj)) fun e => e ▸ h2
  keep := fun pre F G h h' ⟨tv, a, b, c, d, e⟩ o hG => by
    subst e
    exact ⟨tv, a.keep o fun j hj => hG j (.inl hj), b.keep o (hG _ (.inr rfl)), c, d, rfl⟩
theorem inv_JxN {hB : AH} (h1 : hB.next ≤ N) : Inv hB (JxN p N most all) where
  lt := fun pre F h j ⟨tv, a, b, c, e⟩ hj => by subst e; exact a.lt j hj
  ge := fun pre F h j ⟨tv, a, b, c, e⟩ hj => by subst e; exact Nat.le_trans h1 (a.ge j hj)
  keep := fun pre F G h h' ⟨tv, a, b, c, e⟩ o hG => by
    subst e
    exact ⟨tv, a.keep o fun j hj => hG j hj, b, c, rfl⟩
end
theorem bnil80 (l : List AV) : abin Try.prog .eql 80 (.tmp 11) (.const .nilFunc) (.fn (.func 68) [] l) .nilFn = some (.bool false) := by kernel_rfl
theorem outF_nil {p j : Nat} (hj : OutF p .nilSl j) : j = p := hj.elim id fun ⟨_, _, _, _, e⟩ => by cases e
theorem Nd.cells_old {h : AH} {n : Nd} (hv : n.ok h) : ∀ a ∈ n.cells, oldAV h.next a = true := by
  cases n
  simp only [Nd.ok] at hv
  obtain ⟨v0, ⟨v1, _⟩, ⟨v2, _⟩, ⟨v3, _⟩, ⟨v4, _⟩, v5, _⟩ := hv
  intro a ha
  simp only [Nd.cells, List.mem_cons, List.not_mem_nil, or_false] at ha
  rcases ha with rfl | rfl | rfl | rfl | rfl | rfl | rfl | rfl | rfl | rfl
  · rfl
  · rfl
  · rfl
  · rfl
  · exact v0.old
  · exact v1.old
  · exact v2.old
  · exact v3.old
  · exact v4.old
  · exact v5.old
theorem nodes28 {h : AH} {T : Nd} {most : Nat} (hb : T.sz ≤ 1048576) (hall : T.all.length ≤ 1048576) (hm : (most : Int) ≤ 4611686018427387904) (hv : T.ok h) (n : Nat) (hn : 16 * T.sz + 30 ≤ n) :
    ∃ s2 h2, X n (.func 28) [.agg T.cells, .int .i64 most] h = some (s2, h2) ∧ Sl h2 s2 10 ((T.all.take most).map Nd.cells) ∧ Quiet h h2 ∧ SlNew s2 h.next := by
  obtain ⟨m, rfl⟩ : ∃ m, n = m + 2 := ⟨n - 2, by omega⟩
  have q1 : Quiet h (h.alloc T.cells) := Other.alloc _ _ _
  have H1 := Has.new h T.cells
  have n1 : (h.alloc T.cells).next = h.next + 1 := rfl
  have bx : boxV (.agg T.cells) h = some (.ptr h.next 0, h.alloc T.cells) := box_agg h T.cells
  rw [ent28]
  unfold cd28
  generalize h.alloc T.cells = h1 at *
  have q2 : Quiet h1 (h1.alloc [.int .i64 most]) := Other.alloc _ _ _
  have H2 := Has.new h1 [.int .i64 (most : Int)]
  have n2 : (h1.alloc [.int .i64 most]).next = h1.next + 1 := rfl
  have bi : boxV (.int .i64 most) h1 = some (.ptr h1.next 0, h1.alloc [.int .i64 most]) := box_int _ _ .i64
  generalize h1.alloc [.int .i64 most] = h2 at *
  have q3 : Quiet h2 (h2.alloc [.nilSl]) := Other.alloc _ _ _
  have R3 := Row.new h2 [.nilSl]
  have n3 : (h2.alloc [.nilSl]).next = h2.next + 1 := rfl
  have bn := new47 h2
  generalize h2.alloc [.nilSl] = h3 at *
  have q03 : Quiet h h3 := (q1.trans q2).trans q3
  have c2 : h3.cell? h1.next 0 = some (.int .i64 most) := (H2.quiet q3).cell (i := 0) rfl
  by_cases h0 : most = 0
  · subst h0
    have d : decide (((0 : Nat) : Int) ≤ 0) = true := rfl
    simp (implicitDefEqProofs := false) only [run_seq, run_cond, opsS_cons, opsS_nil, sameH_f, sameH_t, run_block, run_loop, run_exit, run_ret, run_skip, ops_cons, ops_nil, ev_tmp, pureS_some, heapS_some, heapN_some, gdS_tt, gdS_ff, gdS_tf, gdS_ft, gdS_undef, List.getD_cons_succ, List.getD_cons_zero, List.set_cons_succ, List.set_cons_zero, Option.bind_some, regR_some, seqR_normal, seqR_ret, seqR_exit, fin0_ret, fin0_normal, fin1_ret, fin1_normal, finN_ret, finN_normal, List.map_cons, List.map_nil, lenV_some, pickV_t, pickV_f, callV_func, callV_yield, extV_tup, condR_true, condR_false, blockR_normal, blockR_ret, blockR_exit, if_true, List.nil_append, List.append_nil, List.cons_append, List.getElem?_cons_zero, List.getElem?_cons_succ, loopR_normal, loopR_exit, loopR_ret, Option.map_some, ite_true, reduceIte, reg28_0, st28_0_0, st28_0_1, st28_0_2, reg28_1, st28_1_0, reg28_2, st28_2_0, st28_2_1, reg28_3, st28_3_0, reg28_4, st28_4_0, st28_4_1, st28_4_2, reg28_5, st28_5_0, st28_5_1, reg28_6, st28_6_0, reg28_7, st28_7_0, st28_7_1, st28_7_2, reg28_8, st28_8_0, st28_8_1, bx, bi, bn, ld3, c2, i_leq, d]
    exact ⟨_, _, nrm_flat q03 rfl, Sl.nil, Other.refl _ _, fun id off len es c e => by cases e⟩
  have d : decide ((most : Int) ≤ 0) = false := by simp; omega
  have r1 := ldS ((H1.quiet q2).quiet q3) (n := 10) T.cells_len
  have a51 := all51 T h3 m
  have q4 : Quiet h3 (h3.alloc T.cells) := Other.alloc _ _ _
  have H4 := Has.new h3 T.cells
  have n4 : (h3.alloc T.cells).next = h3.next + 1 := rfl
  generalize h3.alloc T.cells = h4 at *
  have q04 : Quiet h h4 := q03.trans q4
  have I := inv_JN (hB := h) h2.next h1.next h.next most (Nat.le_refl _) (by omega)
  have IX := inv_JxN (hB := h) h2.next h.next most T.all (Nat.le_refl _)
  have Y : Yields 1 h (.fn (.func 52) [] [.ptr h2.next 0, .ptr h1.next 0]) T.all (JN h2.next h1.next h.next most) (JxN h2.next h.next most T.all) := by
    intro pre x post hpre F g hj q k hk
    obtain ⟨k, rfl⟩ : ∃ j, k = j + 1 := ⟨k - 1, by omega⟩
    obtain ⟨tv, o, hc, hF, hlt, rfl⟩ := hj
    have hxok := Nd.all_ok _ (Nat.le_refl T.sz) hv x (by rw [hpre]; simp)
    have hlen : pre.length + 1 ≤ 1048576 := by
      have := congrArg List.length hpre
      simp only [List.length_append, List.length_cons] at this
      omega
    obtain ⟨s', g', w1, w2, w3⟩ := out52 (N := h.next) o q.next (Nd.atoms hxok) hc hF hlen k
    have hcg := hc.keep w3.oth hF
    have hFg : ¬ OutF h2.next s' h1.next := fun hf => (w3.fp _ hf).elim hF (by have := hc.1; omega)
    refine ⟨_, g', if decide (((pre.length + 1 : Nat) : Int) < (most : Int)) then (fun j => OutF h2.next s' j ∨ j = h1.next) else (fun j => OutF h2.next s' j), by rw [callV_func]; exact w1, ?_, ?_⟩
    · refine ⟨w3.oth.mono fun j _ hj => .inl hj, fun j hj => ?_⟩
      split at hj
      · rcases hj with hj | hj
        · exact (w3.fp j hj).imp_left .inl
        · exact .inl (.inr hj)
      · exact (w3.fp j hj).imp_left .inl
    · by_cases hd : ((pre.length + 1 : Nat) : Int) < (most : Int)
      · simp only [hd, decide_true, if_true]
        exact ⟨s', w2, hcg, hFg, by simpa using hd, rfl⟩
      · simp only [hd, decide_false, Bool.false_eq_true, if_false]
        exact ⟨s', w2, by simp only [List.length_append, List.length_cons, List.length_nil]; omega, ⟨post, by rw [hpre]; simp⟩, rfl⟩
  obtain ⟨h5, F5, w1, w2, w3⟩ := all68 _ (Nat.le_refl T.sz) hb hv I IX (by rfl) Y (F := fun j => OutF h2.next .nilSl j ∨ j = h1.next) (h := h4)
    ⟨.nilSl, ⟨R3.keep (F := fun _ => False) q4 (fun x => x), Own.nil _ _ _, by omega, fun _ _ _ _ e => by cases e⟩, (H2.quiet q3).quiet q4, fun hf => absurd (outF_nil hf) (by omega), by simp only [List.length_nil]; omega, rfl⟩ q04 (b := h3.next) H4
    (fun hf => hf.elim (fun hf => absurd (outF_nil hf) (by omega)) (by omega)) (m + 1) (by omega)
  have hF5 : ∀ j, OutF h2.next .nilSl j ∨ j = h1.next → h.next ≤ j := fun j hf => by
    rcases hf with hf | hf
    · have := outF_nil hf; omega
    · omega
  have qf : Quiet h h5 := q04.plus w2.oth fun j hj => .inr (hF5 j hj)
  have fin : ∃ tv, Out h5 h2.next tv 10 ((T.all.take most).map Nd.cells).flatten h.next := by
    rcases w3 with ⟨tv, a, _, _, d, _⟩ | ⟨pre, tv, a, b, ⟨post, c⟩, _⟩
    · exact ⟨tv, by rw [List.take_of_length_le (by omega)]; exact a⟩
    · have : T.all.take most = pre := by
        have hm : pre.length = most := by omega
        rw [c, ← hm, List.take_left']
        rfl
      exact ⟨tv, by rw [this]; exact a⟩
  obtain ⟨tv, o5⟩ := fin
  have c5 := o5.cell
  simp (implicitDefEqProofs := false) only [run_seq, run_cond, opsS_cons, opsS_nil, sameH_f, sameH_t, run_block, run_loop, run_exit, run_ret, run_skip, ops_cons, ops_nil, ev_tmp, pureS_some, heapS_some, heapN_some, gdS_tt, gdS_ff, gdS_tf, gdS_ft, gdS_undef, List.getD_cons_succ, List.getD_cons_zero, List.set_cons_succ, List.set_cons_zero, Option.bind_some, regR_some, seqR_normal, seqR_ret, seqR_exit, fin0_ret, fin0_normal, fin1_ret, fin1_normal, finN_ret, finN_normal, List.map_cons, List.map_nil, lenV_some, pickV_t, pickV_f, callV_func, callV_yield, extV_tup, condR_true, condR_false, blockR_normal, blockR_ret, blockR_exit, if_true, List.nil_append, List.append_nil, List.cons_append, List.getElem?_cons_zero, List.getElem?_cons_succ, loopR_normal, loopR_exit, loopR_ret, Option.map_some, ite_true, reduceIte, reg28_0, st28_0_0, st28_0_1, st28_0_2, reg28_1, st28_1_0, reg28_2, st28_2_0, st28_2_1, reg28_3, st28_3_0, reg28_4, st28_4_0, st28_4_1, st28_4_2, reg28_5, st28_5_0, st28_5_1, reg28_6, st28_6_0, reg28_7, st28_7_0, st28_7_1, st28_7_2, reg28_8, st28_8_0, st28_8_1, bx, bi, bn, ld3, c2, i_leq, d, ld49, r1, a51, bnil80, w1, ld47, c5]
  exact nrm_own3 o5.own qf (fun x hx => by obtain ⟨c, _, rfl⟩ := List.mem_map.mp hx; exact c.cells_len) (by omega) (fun a ha => by
    obtain ⟨l, hl, ha⟩ := List.mem_flatten.mp ha
    obtain ⟨c, hc, rfl⟩ := List.mem_map.mp hl
    exact Nd.cells_old (Nd.all_ok _ (Nat.le_refl T.sz) hv c (List.mem_of_mem_take hc)) a ha)
end Go.Proofs.Ytgnacecplaemlaa
