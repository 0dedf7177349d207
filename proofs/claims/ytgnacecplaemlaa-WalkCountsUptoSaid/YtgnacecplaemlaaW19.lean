/-
  unquote.Plain; walk.Calls.
-/
import Derived.Test.YtgnacecplaemlaaW18
namespace Go.Proofs.Ytgnacecplaemlaa
open AI
set_option linter.unusedSimpArgs false
/-- A plain word's text. -/
def plain : List Pt → Option (List Nat)
  | [.mk k t _ _ _ _ _] => if k = 1 then some t else none
  | _ => none
theorem plain54 {h : AH} {s : AV} {ps : List Pt} (S : Sl h s 5 (ps.map Pt.cells)) (n : Nat) : X (n + 1) (.func 54) [.agg [s]] h = some (.tup [.str ((plain ps).getD []), .bool (plain ps).isSome], h) := by
  have q1 : Quiet h (h.alloc [s]) := Other.alloc _ _ _
  have c0 : (h.alloc [s]).cell? h.next 0 = some s := cell_alloc _ _ _
  have bx : boxV (.agg [s]) h = some (.ptr h.next 0, h.alloc [s]) := box_agg h [s]
  have S1 := S.quiet q1
  rw [ent54]
  unfold cd54
  generalize h.alloc [s] = h1 at *
  have hal : alen Try.prog 58 s = some ps.length := by rw [S1.alen u58, List.length_map]
  match ps, hal, S1 with
  | [], hal, _ =>
    have e : ((([] : List Pt).length : Int) == 1) = false := rfl
    simp (implicitDefEqProofs := false) only [run_seq, run_cond, opsS_cons, opsS_nil, sameH_f, sameH_t, run_block, run_loop, run_exit, run_ret, run_skip, ops_cons, ops_nil, ev_tmp, pureS_some, heapS_some, heapN_some, gdS_tt, gdS_ff, gdS_tf, gdS_ft, gdS_undef, List.getD_cons_succ, List.getD_cons_zero, List.set_cons_succ, List.set_cons_zero, Option.bind_some, regR_some, seqR_normal, seqR_ret, seqR_exit, fin0_ret, fin0_normal, fin1_ret, fin1_normal, finN_ret, finN_normal, List.map_cons, List.map_nil, lenV_some, pickV_t, pickV_f, callV_func, callV_yield, extV_tup, condR_true, condR_false, blockR_normal, blockR_ret, blockR_exit, if_true, List.nil_append, List.append_nil, List.cons_append, List.getElem?_cons_zero, List.getElem?_cons_succ, loopR_normal, loopR_exit, loopR_ret, Option.map_some, ite_true, reduceIte, reg54_0, st54_0_0, st54_0_1, st54_0_2, reg54_1, st54_1_0, st54_1_1, st54_1_2, st54_1_3, st54_1_4, st54_1_5, st54_1_6, st54_1_7, st54_1_8, st54_1_9, st54_1_10, st54_1_11, reg54_2, st54_2_0, st54_2_1, st54_2_2, st54_2_3, st54_2_4, st54_2_5, st54_2_6, reg54_3, st54_3_0, st54_3_1, bx, fa60_0, Nat.zero_add, ld58, c0, hal, i_eql, e]
    exact nrm_tup q1
  | p :: x :: l, hal, _ =>
    have e : (((p :: x :: l).length : Int) == 1) = false := by simp only [List.length_cons, beq_eq_false_iff_ne, ne_eq]; omega
    have e3 : plain (p :: x :: l) = none := by cases p; rfl
    rw [e3]
    simp (implicitDefEqProofs := false) only [run_seq, run_cond, opsS_cons, opsS_nil, sameH_f, sameH_t, run_block, run_loop, run_exit, run_ret, run_skip, ops_cons, ops_nil, ev_tmp, pureS_some, heapS_some, heapN_some, gdS_tt, gdS_ff, gdS_tf, gdS_ft, gdS_undef, List.getD_cons_succ, List.getD_cons_zero, List.set_cons_succ, List.set_cons_zero, Option.bind_some, regR_some, seqR_normal, seqR_ret, seqR_exit, fin0_ret, fin0_normal, fin1_ret, fin1_normal, finN_ret, finN_normal, List.map_cons, List.map_nil, lenV_some, pickV_t, pickV_f, callV_func, callV_yield, extV_tup, condR_true, condR_false, blockR_normal, blockR_ret, blockR_exit, if_true, List.nil_append, List.append_nil, List.cons_append, List.getElem?_cons_zero, List.getElem?_cons_succ, loopR_normal, loopR_exit, loopR_ret, Option.map_some, ite_true, reduceIte, reg54_0, st54_0_0, st54_0_1, st54_0_2, reg54_1, st54_1_0, st54_1_1, st54_1_2, st54_1_3, st54_1_4, st54_1_5, st54_1_6, st54_1_7, st54_1_8, st54_1_9, st54_1_10, st54_1_11, reg54_2, st54_2_0, st54_2_1, st54_2_2, st54_2_3, st54_2_4, st54_2_5, st54_2_6, reg54_3, st54_3_0, st54_3_1, bx, fa60_0, Nat.zero_add, ld58, c0, hal, i_eql, e]
    exact nrm_tup q1
  | [.mk k t o sk kids sc cs], hal, S1 =>
    have e : ((([(.mk k t o sk kids sc cs : Pt)] : List Pt).length : Int) == 1) = true := rfl
    obtain ⟨id, off, i1, H⟩ := S1.ix u58 z78 (i := 0) (x := [.int .i64 k, .str t, .str o, sk, sc]) rfl
    have i1 := i1 .i64
    simp only [nat0] at i1
    have c1 : h1.cell? id (off + 0) = some (.int .i64 k) := H.cell (i := 0) rfl
    have c2 : h1.cell? id (off + 1) = some (.str t) := H.cell (i := 1) rfl
    by_cases hk : k = 1
    · subst hk
      have e2 : ((1 : Int) == 1) = true := rfl
      simp (implicitDefEqProofs := false) only [run_seq, run_cond, opsS_cons, opsS_nil, sameH_f, sameH_t, run_block, run_loop, run_exit, run_ret, run_skip, ops_cons, ops_nil, ev_tmp, pureS_some, heapS_some, heapN_some, gdS_tt, gdS_ff, gdS_tf, gdS_ft, gdS_undef, List.getD_cons_succ, List.getD_cons_zero, List.set_cons_succ, List.set_cons_zero, Option.bind_some, regR_some, seqR_normal, seqR_ret, seqR_exit, fin0_ret, fin0_normal, fin1_ret, fin1_normal, finN_ret, finN_normal, List.map_cons, List.map_nil, lenV_some, pickV_t, pickV_f, callV_func, callV_yield, extV_tup, condR_true, condR_false, blockR_normal, blockR_ret, blockR_exit, if_true, List.nil_append, List.append_nil, List.cons_append, List.getElem?_cons_zero, List.getElem?_cons_succ, loopR_normal, loopR_exit, loopR_ret, Option.map_some, ite_true, reduceIte, reg54_0, st54_0_0, st54_0_1, st54_0_2, reg54_1, st54_1_0, st54_1_1, st54_1_2, st54_1_3, st54_1_4, st54_1_5, st54_1_6, st54_1_7, st54_1_8, st54_1_9, st54_1_10, st54_1_11, reg54_2, st54_2_0, st54_2_1, st54_2_2, st54_2_3, st54_2_4, st54_2_5, st54_2_6, reg54_3, st54_3_0, st54_3_1, bx, fa60_0, Nat.zero_add, ld58, c0, hal, i_eql, e, i1, fa78_0, fa78_1, ld3, ld9, c1, c2, e2]
      exact nrm_tup q1
    · have e2 : (k == 1) = false := by simpa using hk
      have e3 : plain [.mk k t o sk kids sc cs] = none := if_neg hk
      rw [e3]
      simp (implicitDefEqProofs := false) only [run_seq, run_cond, opsS_cons, opsS_nil, sameH_f, sameH_t, run_block, run_loop, run_exit, run_ret, run_skip, ops_cons, ops_nil, ev_tmp, pureS_some, heapS_some, heapN_some, gdS_tt, gdS_ff, gdS_tf, gdS_ft, gdS_undef, List.getD_cons_succ, List.getD_cons_zero, List.set_cons_succ, List.set_cons_zero, Option.bind_some, regR_some, seqR_normal, seqR_ret, seqR_exit, fin0_ret, fin0_normal, fin1_ret, fin1_normal, finN_ret, finN_normal, List.map_cons, List.map_nil, lenV_some, pickV_t, pickV_f, callV_func, callV_yield, extV_tup, condR_true, condR_false, blockR_normal, blockR_ret, blockR_exit, if_true, List.nil_append, List.append_nil, List.cons_append, List.getElem?_cons_zero, List.getElem?_cons_succ, loopR_normal, loopR_exit, loopR_ret, Option.map_some, ite_true, reduceIte, reg54_0, st54_0_0, st54_0_1, st54_0_2, reg54_1, st54_1_0, st54_1_1, st54_1_2, st54_1_3, st54_1_4, st54_1_5, st54_1_6, st54_1_7, st54_1_8, st54_1_9, st54_1_10, st54_1_11, reg54_2, st54_2_0, st54_2_1, st54_2_2, st54_2_3, st54_2_4, st54_2_5, st54_2_6, reg54_3, st54_3_0, st54_3_1, bx, fa60_0, Nat.zero_add, ld58, c0, hal, i_eql, e, i1, fa78_0, fa78_1, ld3, ld9, c1, c2, e2]
      exact nrm_tup q1
/-- What a command calls. -/
def Nd.call : Nd → Option (List Nat)
  | .mk k _ _ _ _ _ _ _ _ ws _ _ _ _ _ _ => if k = 4 then (match ws with | [] => none | .mk _ ps :: _ => plain ps) else none
theorem bsl40 (h : AH) (s : List Nat) : bslV Try.prog 40 1 [(0, .str s)] h = some (.sl h.next 0 1 1 (some 1), h.alloc [.str s]) := by kernel_rfl
section
variable (id0 p N : Nat) (fr : List AV)
def JC (pre : List Nd) (F : Nat → Prop) (h : AH) : Prop :=
  ∃ tv, Rec h id0 ⟨.ready, 30, fr, #[9], ra30_3, rb30_4⟩ ∧ Out h p tv 1 ((pre.filterMap Nd.call).map .str) N ∧ ¬ OutF p tv id0 ∧ F = fun j => OutF p tv j ∨ j = id0
theorem inv_JC {hB : AH} (h1 : hB.next ≤ id0) (h2 : hB.next ≤ N) : Inv hB (JC id0 p N fr) where
  lt := fun pre F h j ⟨tv, a, b, c, e⟩ hj => by subst e; exact hj.elim (b.lt j) fun e => e ▸ a.1
  ge := fun pre F h j ⟨tv, a, b, c, e⟩ hj => by subst e; exact hj.elim (fun hj => Nat.le_trans h2 (b.ge j hj)) fun e => e ▸ h1
  keep := fun pre F G h h' ⟨tv, a, b, c, e⟩ o hG => by
    subst e
    exact ⟨tv, a.keep o (hG _ (.inr rfl)), b.keep o (fun j hj => hG j (.inl hj)), c, rfl⟩
end
theorem yield30 {hB : AH} {T : Nd} (hv : T.ok hB) (hall : T.all.length ≤ 1048576) {id0 p N : Nat} (hid : hB.next ≤ id0) (v0 v1 v2 v4 v5 v6 v7 v8 v9 v10 v11 v12 v13 v14 v15 v16 v17 v18 v19 v20 v21 v22 v23 v24 v25 v26 v27 v28 v29 v30 v31 v32 : AV) :
    Yields 2 hB (.fn (.yield id0) [] []) T.all (JC id0 p N [v0, v1, v2, .ptr p 0, v4, v5, v6, v7, v8, v9, v10, v11, v12, v13, v14, v15, v16, v17, v18, v19, v20, v21, v22, v23, v24, v25, v26, v27, v28, v29, v30, v31, v32]) (fun _ _ _ => False) := by
  intro pre x post hpre F g hj q n2 hn2
  obtain ⟨k, rfl⟩ : ∃ k, n2 = k + 2 := ⟨n2 - 2, by omega⟩
  obtain ⟨tv, r1, o, hF, rfl⟩ := hj
  have hxok := Nd.all_ok _ (Nat.le_refl T.sz) hv x (by rw [hpre]; simp)
  have hlen : (pre.filterMap Nd.call).length + 1 ≤ 1048576 := by
    have h1 := congrArg List.length hpre
    simp only [List.length_append, List.length_cons] at h1
    have := List.length_filterMap_le Nd.call pre
    omega
  obtain ⟨g1, f1, f2, f3, f4⟩ := fill g [.int .i64 0, .str [], .bool false, .bool false, .nilSl, .nilSl, .nilSl, .nilSl, .nilSl, .nilSl] x.cells x.cells_len
  have sx := stV_agg (t := 49) (n := 10) (l := x.cells) z49 x.cells_len (Nd.atoms hxok) g.next 0 (g.alloc [.int .i64 0, .str [], .bool false, .bool false, .nilSl, .nilSl, .nilSl, .nilSl, .nilSl, .nilSl])
  rw [f1] at sx
  simp only [Option.map_some] at sx
  have r1' := r1.keep f3 (fun x => x)
  have r1l := r1.1
  have n1 := f3.next
  show ∃ b h' F', X (k + 1 + 1) (.yield id0) [.agg x.cells] g = some (.bool b, h') ∧ _
  rw [yield_run r1.2]
  unfold ra30_3
  simp (implicitDefEqProofs := false) only [run_seq, run_cond, opsS_cons, opsS_nil, sameH_f, sameH_t, run_block, run_loop, run_exit, run_ret, run_skip, ops_cons, ops_nil, ev_tmp, pureS_some, heapS_some, heapN_some, gdS_tt, gdS_ff, gdS_tf, gdS_ft, gdS_undef, List.getD_cons_succ, List.getD_cons_zero, List.set_cons_succ, List.set_cons_zero, Option.bind_some, regR_some, seqR_normal, seqR_ret, seqR_exit, fin0_ret, fin0_normal, fin1_ret, fin1_normal, finN_ret, finN_normal, List.map_cons, List.map_nil, lenV_some, pickV_t, pickV_f, callV_func, callV_yield, extV_tup, condR_true, condR_false, blockR_normal, blockR_ret, blockR_exit, if_true, List.nil_append, List.append_nil, List.cons_append, List.getElem?_cons_zero, List.getElem?_cons_succ, loopR_normal, loopR_exit, loopR_ret, Option.map_some, ite_true, reduceIte, reg30_0, st30_0_0, st30_0_1, reg30_1, st30_1_0, reg30_2, st30_2_0, st30_2_1, reg30_3, st30_3_0, st30_3_1, reg30_4, st30_4_0, st30_4_1, st30_4_2, st30_4_3, st30_4_4, st30_4_5, st30_4_6, st30_4_7, st30_4_8, reg30_5, st30_5_0, st30_5_1, st30_5_2, st30_5_3, st30_5_4, st30_5_5, st30_5_6, st30_5_7, st30_5_8, st30_5_9, reg30_6, st30_6_0, reg30_7, st30_7_0, st30_7_1, st30_7_2, st30_7_3, st30_7_4, reg30_8, st30_8_0, st30_8_1, new49, sx]
  rw [mid_ready r1'.2]
  have ob := Other.putOb (h := g1) (id := id0) (some (.loop ⟨.busy, 30, [v0, v1, v2, .ptr p 0, v4, v5, v6, v7, v8, v9, v10, v11, v12, v13, v14, v15, v16, v17, v18, v19, v20, v21, v22, v23, v24, v25, v26, v27, v28, v29, v30, v31, v32], #[9], ra30_3, rb30_4⟩))
  have rb := Rec.put (h := g1) (id := id0) ⟨.busy, 30, [v0, v1, v2, .ptr p 0, v4, v5, v6, v7, v8, v9, v10, v11, v12, v13, v14, v15, v16, v17, v18, v19, v20, v21, v22, v23, v24, v25, v26, v27, v28, v29, v30, v31, v32], #[9], ra30_3, rb30_4⟩ r1'.1
  have ng : (AH.putOb g1 id0 (some (.loop ⟨.busy, 30, [v0, v1, v2, .ptr p 0, v4, v5, v6, v7, v8, v9, v10, v11, v12, v13, v14, v15, v16, v17, v18, v19, v20, v21, v22, v23, v24, v25, v26, v27, v28, v29, v30, v31, v32], #[9], ra30_3, rb30_4⟩))).next = g1.next := rfl
  have q2 : Quiet hB (AH.putOb g1 id0 (some (.loop ⟨.busy, 30, [v0, v1, v2, .ptr p 0, v4, v5, v6, v7, v8, v9, v10, v11, v12, v13, v14, v15, v16, v17, v18, v19, v20, v21, v22, v23, v24, v25, v26, v27, v28, v29, v30, v31, v32], #[9], ra30_3, rb30_4⟩))) := (q.trans f3).plus ob fun j e => .inr (e ▸ hid)
  generalize AH.putOb g1 id0 (some (.loop ⟨.busy, 30, [v0, v1, v2, .ptr p 0, v4, v5, v6, v7, v8, v9, v10, v11, v12, v13, v14, v15, v16, v17, v18, v19, v20, v21, v22, v23, v24, v25, v26, v27, v28, v29, v30, v31, v32], #[9], ra30_3, rb30_4⟩)) = g2 at *
  have O2 : Out g2 p tv 1 ((pre.filterMap Nd.call).map .str) N := (o.quiet f3).keep ob fun j hj e => hF (e ▸ hj)
  have H2 := (f2.keep ob (F := fun j => j = id0) (by omega)).has
  -- behind the body
  have close : ∀ (fr' : List AV) (g3 : AH) (tv' : AV), Out g3 p tv' 1 (((pre ++ [x]).filterMap Nd.call).map .str) N → OS g2 g3 p tv tv' →
      ∃ b h' F', roundEnd id0 (some (.normal, fr', g3)) = some (.bool b, h') ∧ St (fun j => OutF p tv j ∨ j = id0) F' g h' ∧ (if b then JC id0 p N [v0, v1, v2, .ptr p 0, v4, v5, v6, v7, v8, v9, v10, v11, v12, v13, v14, v15, v16, v17, v18, v19, v20, v21, v22, v23, v24, v25, v26, v27, v28, v29, v30, v31, v32] (pre ++ [x]) F' h' else False) := by
    intro fr' g3 tv' O3 os
    have ro := rb.keep os.oth hF
    rw [end_normal ro.2]
    have hF3 : ¬ OutF p tv' id0 := fun hf => (os.fp _ hf).elim hF (by omega)
    refine ⟨true, _, fun j => OutF p tv' j ∨ j = id0, rfl, ⟨((f3.any.trans (ob.mono fun j _ e => .inr e)).trans (os.oth.mono fun j _ hj => .inl hj)).trans ((Other.putOb _).mono fun j _ e => .inr e), fun j hj => ?_⟩, ?_⟩
    · rcases hj with hj | hj
      · exact (os.fp j hj).elim (fun h => .inl (.inl h)) fun h => .inr (by omega)
      · exact .inl (.inr hj)
    · rw [if_pos rfl]
      exact ⟨tv', Rec.put _ ro.1, O3.keep (Other.putOb _) fun j hj e => hF3 (e ▸ hj), hF3, rfl⟩
  have none_ : x.call = none → ((pre ++ [x]).filterMap Nd.call) = pre.filterMap Nd.call := fun e => by rw [List.filterMap_append]; simp [e]
  unfold rb30_4
  obtain ⟨kd, name, nt, inn, so, ops, sa, az, sw, ws, sr, rs, sm, ms, sk, kids⟩ := x
  have c0 : g2.cell? g.next (0 + 0) = some (.int .i64 kd) := H2.cell (i := 0) rfl
  have c6 : g2.cell? g.next (0 + 6) = some sw := H2.cell (i := 6) rfl
  simp only [Nd.ok] at hxok
  obtain ⟨_, _, ⟨vw1, vw2⟩, _⟩ := hxok
  have Sw := vw1.quiet q2
  have hal : alen Try.prog 44 sw = some ws.length := by rw [Sw.alen u44, List.length_map]
  by_cases hk : kd = 4
  · subst hk
    have d : ((4 : Int) != 4) = false := rfl
    match ws, hal, Sw, vw2, close, none_ with
    | [], hal, _, _, close, none_ =>
      have e : ((([] : List Wd).length : Int) == 0) = true := rfl
      simp (implicitDefEqProofs := false) only [run_seq, run_cond, opsS_cons, opsS_nil, sameH_f, sameH_t, run_block, run_loop, run_exit, run_ret, run_skip, ops_cons, ops_nil, ev_tmp, pureS_some, heapS_some, heapN_some, gdS_tt, gdS_ff, gdS_tf, gdS_ft, gdS_undef, List.getD_cons_succ, List.getD_cons_zero, List.set_cons_succ, List.set_cons_zero, Option.bind_some, regR_some, seqR_normal, seqR_ret, seqR_exit, fin0_ret, fin0_normal, fin1_ret, fin1_normal, finN_ret, finN_normal, List.map_cons, List.map_nil, lenV_some, pickV_t, pickV_f, callV_func, callV_yield, extV_tup, condR_true, condR_false, blockR_normal, blockR_ret, blockR_exit, if_true, List.nil_append, List.append_nil, List.cons_append, List.getElem?_cons_zero, List.getElem?_cons_succ, loopR_normal, loopR_exit, loopR_ret, Option.map_some, ite_true, reduceIte, reg30_0, st30_0_0, st30_0_1, reg30_1, st30_1_0, reg30_2, st30_2_0, st30_2_1, reg30_3, st30_3_0, st30_3_1, reg30_4, st30_4_0, st30_4_1, st30_4_2, st30_4_3, st30_4_4, st30_4_5, st30_4_6, st30_4_7, st30_4_8, reg30_5, st30_5_0, st30_5_1, st30_5_2, st30_5_3, st30_5_4, st30_5_5, st30_5_6, st30_5_7, st30_5_8, st30_5_9, reg30_6, st30_6_0, reg30_7, st30_7_0, st30_7_1, st30_7_2, st30_7_3, st30_7_4, reg30_8, st30_8_0, st30_8_1, fa49_0, fa49_6, ld3, ld44, c0, c6, i_neq, d, hal, i_eql, e]
      exact close _ _ tv (by rw [none_ rfl]; exact O2) (OS.refl _ _ _)
    | .mk s ps :: l, hal, Sw, vw2, close, none_ =>
      have e : (((.mk s ps :: l : List Wd).length : Int) == 0) = false := by simp only [List.length_cons, beq_eq_false_iff_ne, ne_eq]; omega
      obtain ⟨id, off, i1, Hw⟩ := Sw.ix u44 z60 (i := 0) (x := [s]) rfl
      have i1 := i1 .i64
      simp only [nat0] at i1
      have rw1 := ldS Hw (n := 1) rfl
      simp only [okW, Wd.ok] at vw2
      have p54 := plain54 (vw2.1.1.quiet q2) k
      cases hp : plain ps with
      | none =>
        rw [hp] at p54
        simp only [Option.getD_none, Option.isSome_none] at p54
        simp (implicitDefEqProofs := false) only [run_seq, run_cond, opsS_cons, opsS_nil, sameH_f, sameH_t, run_block, run_loop, run_exit, run_ret, run_skip, ops_cons, ops_nil, ev_tmp, pureS_some, heapS_some, heapN_some, gdS_tt, gdS_ff, gdS_tf, gdS_ft, gdS_undef, List.getD_cons_succ, List.getD_cons_zero, List.set_cons_succ, List.set_cons_zero, Option.bind_some, regR_some, seqR_normal, seqR_ret, seqR_exit, fin0_ret, fin0_normal, fin1_ret, fin1_normal, finN_ret, finN_normal, List.map_cons, List.map_nil, lenV_some, pickV_t, pickV_f, callV_func, callV_yield, extV_tup, condR_true, condR_false, blockR_normal, blockR_ret, blockR_exit, if_true, List.nil_append, List.append_nil, List.cons_append, List.getElem?_cons_zero, List.getElem?_cons_succ, loopR_normal, loopR_exit, loopR_ret, Option.map_some, ite_true, reduceIte, reg30_0, st30_0_0, st30_0_1, reg30_1, st30_1_0, reg30_2, st30_2_0, st30_2_1, reg30_3, st30_3_0, st30_3_1, reg30_4, st30_4_0, st30_4_1, st30_4_2, st30_4_3, st30_4_4, st30_4_5, st30_4_6, st30_4_7, st30_4_8, reg30_5, st30_5_0, st30_5_1, st30_5_2, st30_5_3, st30_5_4, st30_5_5, st30_5_6, st30_5_7, st30_5_8, st30_5_9, reg30_6, st30_6_0, reg30_7, st30_7_0, st30_7_1, st30_7_2, st30_7_3, st30_7_4, reg30_8, st30_8_0, st30_8_1, fa49_0, fa49_6, ld3, ld44, c0, c6, i_neq, d, hal, i_eql, e, i1, ld60, rw1, p54]
        exact close _ _ tv (by rw [none_ hp]; exact O2) (OS.refl _ _ _)
      | some t =>
        rw [hp] at p54
        simp only [Option.getD_some, Option.isSome_some] at p54
        have co := O2.cell
        have b1 := bsl40 g2 t
        have qb : Quiet g2 (g2.alloc [.str t]) := Other.alloc _ _ _
        have Sb : Sl (g2.alloc [.str t]) (.sl g2.next 0 1 1 (some 1)) 1 [[.str t]] := sl_one (.str t) (some 1)
        have nb : (g2.alloc [.str t]).next = g2.next + 1 := rfl
        generalize g2.alloc [.str t] = g3 at *
        have hNg : N ≤ g3.next := by have := O2.le; have := O2.row.1; omega
        obtain ⟨s', g4, g5, a1, a2, a3, a4, a5⟩ := out_app (x := .sl g2.next 0 1 1 (some 1)) (new := [.str t]) (n := 1) (O2.quiet qb) hNg el9 u40 u40 rfl rfl Sb.first rfl rfl (by simp only [List.length_map, List.length_cons, List.length_nil]; omega)
        have st := stV_one (t := 40) (v := s') (by kernel_rfl) a3 p 0 g4
        rw [a2] at st
        simp only [Option.map_some] at st
        simp (implicitDefEqProofs := false) only [run_seq, run_cond, opsS_cons, opsS_nil, sameH_f, sameH_t, run_block, run_loop, run_exit, run_ret, run_skip, ops_cons, ops_nil, ev_tmp, pureS_some, heapS_some, heapN_some, gdS_tt, gdS_ff, gdS_tf, gdS_ft, gdS_undef, List.getD_cons_succ, List.getD_cons_zero, List.set_cons_succ, List.set_cons_zero, Option.bind_some, regR_some, seqR_normal, seqR_ret, seqR_exit, fin0_ret, fin0_normal, fin1_ret, fin1_normal, finN_ret, finN_normal, List.map_cons, List.map_nil, lenV_some, pickV_t, pickV_f, callV_func, callV_yield, extV_tup, condR_true, condR_false, blockR_normal, blockR_ret, blockR_exit, if_true, List.nil_append, List.append_nil, List.cons_append, List.getElem?_cons_zero, List.getElem?_cons_succ, loopR_normal, loopR_exit, loopR_ret, Option.map_some, ite_true, reduceIte, reg30_0, st30_0_0, st30_0_1, reg30_1, st30_1_0, reg30_2, st30_2_0, st30_2_1, reg30_3, st30_3_0, st30_3_1, reg30_4, st30_4_0, st30_4_1, st30_4_2, st30_4_3, st30_4_4, st30_4_5, st30_4_6, st30_4_7, st30_4_8, reg30_5, st30_5_0, st30_5_1, st30_5_2, st30_5_3, st30_5_4, st30_5_5, st30_5_6, st30_5_7, st30_5_8, st30_5_9, reg30_6, st30_6_0, reg30_7, st30_7_0, st30_7_1, st30_7_2, st30_7_3, st30_7_4, reg30_8, st30_8_0, st30_8_1, fa49_0, fa49_6, ld3, ld44, c0, c6, i_neq, d, hal, i_eql, e, i1, ld60, rw1, p54, ld40, co, b1, a1, st]
        refine close _ _ s' ?_ ((OS.of_quiet tv qb).trans a5)
        have hc : Nd.call (.mk 4 name nt inn so ops sa az sw (.mk s ps :: l) sr rs sm ms sk kids) = some t := hp
        rw [List.filterMap_append, List.filterMap_cons, hc, List.filterMap_nil, List.map_append]
        exact a4
  · have d : (kd != 4) = true := by simpa using hk
    simp (implicitDefEqProofs := false) only [run_seq, run_cond, opsS_cons, opsS_nil, sameH_f, sameH_t, run_block, run_loop, run_exit, run_ret, run_skip, ops_cons, ops_nil, ev_tmp, pureS_some, heapS_some, heapN_some, gdS_tt, gdS_ff, gdS_tf, gdS_ft, gdS_undef, List.getD_cons_succ, List.getD_cons_zero, List.set_cons_succ, List.set_cons_zero, Option.bind_some, regR_some, seqR_normal, seqR_ret, seqR_exit, fin0_ret, fin0_normal, fin1_ret, fin1_normal, finN_ret, finN_normal, List.map_cons, List.map_nil, lenV_some, pickV_t, pickV_f, callV_func, callV_yield, extV_tup, condR_true, condR_false, blockR_normal, blockR_ret, blockR_exit, if_true, List.nil_append, List.append_nil, List.cons_append, List.getElem?_cons_zero, List.getElem?_cons_succ, loopR_normal, loopR_exit, loopR_ret, Option.map_some, ite_true, reduceIte, reg30_0, st30_0_0, st30_0_1, reg30_1, st30_1_0, reg30_2, st30_2_0, st30_2_1, reg30_3, st30_3_0, st30_3_1, reg30_4, st30_4_0, st30_4_1, st30_4_2, st30_4_3, st30_4_4, st30_4_5, st30_4_6, st30_4_7, st30_4_8, reg30_5, st30_5_0, st30_5_1, st30_5_2, st30_5_3, st30_5_4, st30_5_5, st30_5_6, st30_5_7, st30_5_8, st30_5_9, reg30_6, st30_6_0, reg30_7, st30_7_0, st30_7_1, st30_7_2, st30_7_3, st30_7_4, reg30_8, st30_8_0, st30_8_1, fa49_0, fa49_6, ld3, ld44, c0, c6, i_neq, d]
    exact close _ _ tv (by rw [none_ (if_neg hk)]; exact O2) (OS.refl _ _ _)
theorem calls30 {h : AH} {T : Nd} (hb : T.sz ≤ 1048576) (hall : T.all.length ≤ 1048576) (hv : T.ok h) (n : Nat) (hn : 16 * T.sz + 30 ≤ n) :
    ∃ s2 h2, X n (.func 30) [.agg T.cells] h = some (s2, h2) ∧ Sl h2 s2 1 ((T.all.filterMap Nd.call).map fun t => [.str t]) ∧ Quiet h h2 ∧ SlNew s2 h.next := by
  obtain ⟨m, rfl⟩ : ∃ m, n = m + 2 := ⟨n - 2, by omega⟩
  have q1 : Quiet h (h.alloc T.cells) := Other.alloc _ _ _
  have H1 := Has.new h T.cells
  have n1 : (h.alloc T.cells).next = h.next + 1 := rfl
  have bx : boxV (.agg T.cells) h = some (.ptr h.next 0, h.alloc T.cells) := box_agg h T.cells
  rw [ent30]
  unfold cd30
  generalize h.alloc T.cells = h1 at *
  have q3 : Quiet h1 (h1.alloc [.nilSl]) := Other.alloc _ _ _
  have R3 := Row.new h1 [.nilSl]
  have n3 : (h1.alloc [.nilSl]).next = h1.next + 1 := rfl
  have bn := new40 h1
  generalize h1.alloc [.nilSl] = h3 at *
  have r1 := ldS (H1.quiet q3) (n := 10) T.cells_len
  have a51 := all51 T h3 m
  have q4 : Quiet h3 (h3.alloc T.cells) := Other.alloc _ _ _
  have H4 := Has.new h3 T.cells
  have n4 : (h3.alloc T.cells).next = h3.next + 1 := rfl
  generalize h3.alloc T.cells = h4 at *
  have q04 : Quiet h h4 := (q1.trans q3).trans q4
  have hrd : rdOK none h4 = true := rfl
  have qn := Other.newOb h4 (.loop ⟨.ready, 30, [.agg T.cells, .ptr h.next 0, .nilSl, .ptr h1.next 0, .tup [], .tup [], .tup [], .agg T.cells, .fn (.func 68) [] [.ptr h3.next 0], .tup [], .tup [], .tup [], .tup [], .tup [], .tup [], .tup [], .tup [], .tup [], .tup [], .tup [], .tup [], .tup [], .tup [], .tup [], .tup [], .tup [], .tup [], .tup [], .tup [], .tup [], .tup [], .tup [], .tup []], #[9], ra30_3, rb30_4⟩)
  have rn : Rec (h4.newOb (.loop ⟨.ready, 30, [.agg T.cells, .ptr h.next 0, .nilSl, .ptr h1.next 0, .tup [], .tup [], .tup [], .agg T.cells, .fn (.func 68) [] [.ptr h3.next 0], .tup [], .tup [], .tup [], .tup [], .tup [], .tup [], .tup [], .tup [], .tup [], .tup [], .tup [], .tup [], .tup [], .tup [], .tup [], .tup [], .tup [], .tup [], .tup [], .tup [], .tup [], .tup [], .tup [], .tup []], #[9], ra30_3, rb30_4⟩)) h4.next _ := ⟨Nat.lt_succ_self _, by rw [AH.ob?_newOb, if_pos rfl]⟩
  have nn : (h4.newOb (.loop ⟨.ready, 30, [.agg T.cells, .ptr h.next 0, .nilSl, .ptr h1.next 0, .tup [], .tup [], .tup [], .agg T.cells, .fn (.func 68) [] [.ptr h3.next 0], .tup [], .tup [], .tup [], .tup [], .tup [], .tup [], .tup [], .tup [], .tup [], .tup [], .tup [], .tup [], .tup [], .tup [], .tup [], .tup [], .tup [], .tup [], .tup [], .tup [], .tup [], .tup [], .tup [], .tup []], #[9], ra30_3, rb30_4⟩)).next = h4.next + 1 := rfl
  have Y := yield30 (id0 := h4.next) (p := h1.next) (N := h.next) hv hall q04.next (.agg T.cells) (.ptr h.next 0) .nilSl (.tup []) (.tup []) (.tup []) (.agg T.cells) (.fn (.func 68) [] [.ptr h3.next 0]) (.tup []) (.tup []) (.tup []) (.tup []) (.tup []) (.tup []) (.tup []) (.tup []) (.tup []) (.tup []) (.tup []) (.tup []) (.tup []) (.tup []) (.tup []) (.tup []) (.tup []) (.tup []) (.tup []) (.tup []) (.tup []) (.tup []) (.tup []) (.tup [])
  have I := inv_JC (hB := h) h4.next h1.next h.next [.agg T.cells, .ptr h.next 0, .nilSl, .ptr h1.next 0, .tup [], .tup [], .tup [], .agg T.cells, .fn (.func 68) [] [.ptr h3.next 0], .tup [], .tup [], .tup [], .tup [], .tup [], .tup [], .tup [], .tup [], .tup [], .tup [], .tup [], .tup [], .tup [], .tup [], .tup [], .tup [], .tup [], .tup [], .tup [], .tup [], .tup [], .tup [], .tup [], .tup []] q04.next (Nat.le_refl _)
  have IX : Inv h (fun _ _ _ => False) := ⟨fun _ _ _ _ h => h.elim, fun _ _ _ _ h => h.elim, fun _ _ _ _ _ h => h.elim⟩
  obtain ⟨h5, F5, w1, w2, w3⟩ := all68 _ (Nat.le_refl T.sz) hb hv I IX (by rfl) Y (F := fun j => OutF h1.next .nilSl j ∨ j = h4.next)
    ⟨.nilSl, rn, ⟨(R3.keep (F := fun _ => False) q4 (fun x => x)).keep (F := fun _ => False) qn (fun x => x), Own.nil _ _ _, by omega, fun _ _ _ _ e => by cases e⟩, fun hf => absurd (outF_nil hf) (by omega), rfl⟩ (q04.trans qn) (b := h3.next) (H4.quiet qn)
    (fun hf => hf.elim (fun hf => absurd (outF_nil hf) (by omega)) (by omega)) (m + 1) (by omega)
  have hF5 : ∀ j, OutF h1.next .nilSl j ∨ j = h4.next → h.next ≤ j := fun j hf => by
    rcases hf with hf | hf
    · have := outF_nil hf; omega
    · omega
  have qf : Quiet h h5 := (q04.trans qn).plus w2.oth fun j hj => .inr (hF5 j hj)
  simp (implicitDefEqProofs := false) only [run_seq, run_cond, opsS_cons, opsS_nil, sameH_f, sameH_t, run_block, run_loop, run_exit, run_ret, run_skip, ops_cons, ops_nil, ev_tmp, pureS_some, heapS_some, heapN_some, gdS_tt, gdS_ff, gdS_tf, gdS_ft, gdS_undef, List.getD_cons_succ, List.getD_cons_zero, List.set_cons_succ, List.set_cons_zero, Option.bind_some, regR_some, seqR_normal, seqR_ret, seqR_exit, fin0_ret, fin0_normal, fin1_ret, fin1_normal, finN_ret, finN_normal, List.map_cons, List.map_nil, lenV_some, pickV_t, pickV_f, callV_func, callV_yield, extV_tup, condR_true, condR_false, blockR_normal, blockR_ret, blockR_exit, if_true, List.nil_append, List.append_nil, List.cons_append, List.getElem?_cons_zero, List.getElem?_cons_succ, loopR_normal, loopR_exit, loopR_ret, Option.map_some, ite_true, reduceIte, reg30_0, st30_0_0, st30_0_1, reg30_1, st30_1_0, reg30_2, st30_2_0, st30_2_1, reg30_3, st30_3_0, st30_3_1, reg30_4, st30_4_0, st30_4_1, st30_4_2, st30_4_3, st30_4_4, st30_4_5, st30_4_6, st30_4_7, st30_4_8, reg30_5, st30_5_0, st30_5_1, st30_5_2, st30_5_3, st30_5_4, st30_5_5, st30_5_6, st30_5_7, st30_5_8, st30_5_9, reg30_6, st30_6_0, reg30_7, st30_7_0, st30_7_1, st30_7_2, st30_7_3, st30_7_4, reg30_8, st30_8_0, st30_8_1, bx, bn, ld49, r1, a51, run_range, hrd, callF_func, hb68]
  generalize hr : rangeEnd _ _ _ = r
  revert r hr
  rcases w3 with ⟨tv, t1, t2, t3, _⟩ | ⟨_, w3⟩
  · refine range_all ⟨_, h5, _, w1, t1.2, .inl ⟨rfl, ?_⟩⟩
    have O6 := t2.keep (Other.putOb (id := h4.next) none) fun j hj e => t3 (e ▸ hj)
    have c5 := O6.cell
    have qg : Quiet h (h5.putOb h4.next none) := qf.plus (Other.putOb none) fun j e => .inr (by omega)
    simp (implicitDefEqProofs := false) only [run_seq, run_cond, opsS_cons, opsS_nil, sameH_f, sameH_t, run_block, run_loop, run_exit, run_ret, run_skip, ops_cons, ops_nil, ev_tmp, pureS_some, heapS_some, heapN_some, gdS_tt, gdS_ff, gdS_tf, gdS_ft, gdS_undef, List.getD_cons_succ, List.getD_cons_zero, List.set_cons_succ, List.set_cons_zero, Option.bind_some, regR_some, seqR_normal, seqR_ret, seqR_exit, fin0_ret, fin0_normal, fin1_ret, fin1_normal, finN_ret, finN_normal, List.map_cons, List.map_nil, lenV_some, pickV_t, pickV_f, callV_func, callV_yield, extV_tup, condR_true, condR_false, blockR_normal, blockR_ret, blockR_exit, if_true, List.nil_append, List.append_nil, List.cons_append, List.getElem?_cons_zero, List.getElem?_cons_succ, loopR_normal, loopR_exit, loopR_ret, Option.map_some, ite_true, reduceIte, reg30_0, st30_0_0, st30_0_1, reg30_1, st30_1_0, reg30_2, st30_2_0, st30_2_1, reg30_3, st30_3_0, st30_3_1, reg30_4, st30_4_0, st30_4_1, st30_4_2, st30_4_3, st30_4_4, st30_4_5, st30_4_6, st30_4_7, st30_4_8, reg30_5, st30_5_0, st30_5_1, st30_5_2, st30_5_3, st30_5_4, st30_5_5, st30_5_6, st30_5_7, st30_5_8, st30_5_9, reg30_6, st30_6_0, reg30_7, st30_7_0, st30_7_1, st30_7_2, st30_7_3, st30_7_4, reg30_8, st30_8_0, st30_8_1, ld40, c5]
    have hfl : ((T.all.filterMap Nd.call).map fun t => [AV.str t]).flatten = (T.all.filterMap Nd.call).map .str := by
      generalize T.all.filterMap Nd.call = l
      induction l with
      | nil => rfl
      | cons a l ih => simp only [List.map_cons, List.flatten_cons, ih, List.cons_append, List.nil_append]
    have O7 := O6.own
    rw [← hfl] at O7
    exact nrm_own3 O7 qg (fun x hx => by obtain ⟨c, _, rfl⟩ := List.mem_map.mp hx; rfl) (by omega) (fun a ha => by
      rw [hfl] at ha
      obtain ⟨t, _, rfl⟩ := List.mem_map.mp ha
      rfl)
  · exact w3.elim
end Go.Proofs.Ytgnacecplaemlaa
