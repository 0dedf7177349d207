/-
  part.Cmds: what it hands back.
-/
import Derived.Test.YtgnacecplaemlaaW9
namespace Go.Proofs.Ytgnacecplaemlaa
open AI
set_option linter.unusedSimpArgs false
theorem cmds83 {hB h : AH} {p N : Nat} {tv : AV} {l : List AV} {kd : Int} {tx op : List Nat} {sk sc : AV} {cs : List Nd} (o : Out h p tv 1 l N) (hN : N ≤ h.next) (hsc : Sl hB sc 10 (cs.map Nd.cells))
    (hb : l.length + 1 ≤ 4194304) (n : Nat) :
    ∃ t2 h2, X (n + 1) (.func 83) [.agg [.int .i64 kd, .str tx, .str op, sk, sc], .ptr p 0] h = some (.tup [], h2) ∧ Out h2 p t2 1 (l ++ if kd = 6 then [sc] else []) N ∧ OS h h2 p tv t2 := by
  have q1 : Quiet h (h.alloc [.int .i64 kd, .str tx, .str op, sk, sc]) := Other.alloc _ _ _
  have c0 : (h.alloc [.int .i64 kd, .str tx, .str op, sk, sc]).cell? h.next 0 = some (.int .i64 kd) := cell_alloc _ _ _
  have c4 : (h.alloc [.int .i64 kd, .str tx, .str op, sk, sc]).cell? h.next 4 = some sc := cell_alloc _ _ _
  generalize hh1 : h.alloc [.int .i64 kd, .str tx, .str op, sk, sc] = h1 at *
  have o1 := o.quiet q1
  have cp := o1.cell
  rw [ent83]
  unfold cd83
  by_cases hk6 : kd = 6
  · have t6 : (kd == (6 : Int)) = true := by simp [hk6]
    have hat := hsc.atom
    have b1 := bsl47 h1 sc hat
    have q2 : Quiet h1 (h1.alloc [sc]) := Other.alloc _ _ _
    obtain ⟨s', h3, h2, a1, a2, a3, a4, a5⟩ := out_app (x := .sl h1.next 0 1 1 (some 1)) (new := [sc]) (n := 1) (o1.quiet q2) (Nat.le_trans hN (Nat.le_trans q1.next q2.next)) el47 u89 u89 rfl rfl ((sl_one sc (some 1)).first) rfl (by simp only [atoms, hat, Bool.and_self]) (by simp; omega)
    have st := stV_one (t := 89) (v := s') (by kernel_rfl) a3 p 0 h3
    rw [a2] at st
    simp only [Option.map_some] at st
    simp (implicitDefEqProofs := false) only [run_seq, run_cond, opsS_cons, opsS_nil, sameH_f, sameH_t, run_block, run_loop, run_exit, run_ret, run_skip, ops_cons, ops_nil, ev_tmp, pureS_some, heapS_some, heapN_some, gdS_tt, gdS_ff, gdS_tf, gdS_ft, gdS_undef, List.getD_cons_succ, List.getD_cons_zero, List.set_cons_succ, List.set_cons_zero, Option.bind_some, regR_some, seqR_normal, seqR_ret, seqR_exit, fin0_ret, fin0_normal, fin1_ret, fin1_normal, finN_ret, finN_normal, List.map_cons, List.map_nil, lenV_some, pickV_t, pickV_f, callV_func, callV_yield, extV_tup, condR_true, condR_false, blockR_normal, blockR_ret, blockR_exit, if_true, List.nil_append, List.append_nil, List.cons_append, List.getElem?_cons_zero, List.getElem?_cons_succ, loopR_normal, loopR_exit, loopR_ret, Option.map_some, ite_true, reduceIte, reg83_0, st83_0_0, reg83_1, st83_1_0, st83_1_1, st83_1_2, reg83_2, st83_2_0, st83_2_1, st83_2_2, st83_2_3, st83_2_4, st83_2_5, box_agg, hh1, fa49_0, fa49_1, fa49_2, fa49_3, fa49_4, fa49_5, fa49_6, fa49_7, fa49_8, fa49_9, fa60_0, fa73_0, fa73_1, fa73_2, fa73_3, fa76_0, fa76_1, fa78_0, fa78_1, fa78_2, fa78_3, fa78_4, Nat.zero_add, ld3, ld47, ld89, c0, c4, cp, i_eql, t6, b1, a1, st]
    exact ⟨s', h2, rfl, by rw [if_pos hk6]; exact a4, ((OS.of_quiet tv q1).trans (OS.of_quiet tv q2)).trans a5⟩
  · have t6 : (kd == (6 : Int)) = false := by simp [hk6]
    simp (implicitDefEqProofs := false) only [run_seq, run_cond, opsS_cons, opsS_nil, sameH_f, sameH_t, run_block, run_loop, run_exit, run_ret, run_skip, ops_cons, ops_nil, ev_tmp, pureS_some, heapS_some, heapN_some, gdS_tt, gdS_ff, gdS_tf, gdS_ft, gdS_undef, List.getD_cons_succ, List.getD_cons_zero, List.set_cons_succ, List.set_cons_zero, Option.bind_some, regR_some, seqR_normal, seqR_ret, seqR_exit, fin0_ret, fin0_normal, fin1_ret, fin1_normal, finN_ret, finN_normal, List.map_cons, List.map_nil, lenV_some, pickV_t, pickV_f, callV_func, callV_yield, extV_tup, condR_true, condR_false, blockR_normal, blockR_ret, blockR_exit, if_true, List.nil_append, List.append_nil, List.cons_append, List.getElem?_cons_zero, List.getElem?_cons_succ, loopR_normal, loopR_exit, loopR_ret, Option.map_some, ite_true, reduceIte, reg83_0, st83_0_0, reg83_1, st83_1_0, st83_1_1, st83_1_2, reg83_2, st83_2_0, st83_2_1, st83_2_2, st83_2_3, st83_2_4, st83_2_5, box_agg, hh1, fa49_0, fa49_1, fa49_2, fa49_3, fa49_4, fa49_5, fa49_6, fa49_7, fa49_8, fa49_9, fa60_0, fa73_0, fa73_1, fa73_2, fa73_3, fa76_0, fa76_1, fa78_0, fa78_1, fa78_2, fa78_3, fa78_4, Nat.zero_add, ld3, c0, i_eql, t6]
    exact ⟨tv, h1, rfl, by rw [if_neg hk6, List.append_nil]; exact o1, OS.of_quiet tv q1⟩

theorem each82 : ∀ (M : Nat) {hB h : AH} {p N : Nat} {tv s : AV} {l : List AV} {ps : List Pt}, szP ps ≤ M → szP ps ≤ 1048576 → l.length + szP ps ≤ 3145728 → okP hB ps → Sl hB s 5 (ps.map Pt.cells) → Quiet hB h → hB.next ≤ N → N ≤ h.next → Out h p tv 1 l N →
    ∀ n, 4 * szP ps + 2 ≤ n → ∃ t2 h2, X n (.func 82) [s, .fn (.func 83) [] [.ptr p 0]] h = some (.tup [], h2) ∧ Out h2 p t2 1 (l ++ cmdSl ps) N ∧ OS h h2 p tv t2 := by
  intro M
  induction M using Nat.strongRecOn
  rename_i M ih
  intro hB h p N tv s l ps hM hb hbl hv S qB hBN hN o n hn
  obtain ⟨m, rfl⟩ : ∃ m, n = m + 1 := ⟨n - 1, by omega⟩
  have hlen := szP_len ps
  have hl : alen Try.prog 58 s = some ps.length := by rw [S.alen u58, List.length_map]
  rw [ent82]
  unfold cd82
  simp (implicitDefEqProofs := false) only [run_seq, run_cond, opsS_cons, opsS_nil, sameH_f, sameH_t, run_block, run_loop, run_exit, run_ret, run_skip, ops_cons, ops_nil, ev_tmp, pureS_some, heapS_some, heapN_some, gdS_tt, gdS_ff, gdS_tf, gdS_ft, gdS_undef, List.getD_cons_succ, List.getD_cons_zero, List.set_cons_succ, List.set_cons_zero, Option.bind_some, regR_some, seqR_normal, seqR_ret, seqR_exit, fin0_ret, fin0_normal, fin1_ret, fin1_normal, finN_ret, finN_normal, List.map_cons, List.map_nil, lenV_some, pickV_t, pickV_f, callV_func, callV_yield, extV_tup, condR_true, condR_false, blockR_normal, blockR_ret, blockR_exit, if_true, List.nil_append, List.append_nil, List.cons_append, List.getElem?_cons_zero, List.getElem?_cons_succ, loopR_normal, loopR_exit, loopR_ret, Option.map_some, ite_true, reduceIte, reg82_0, st82_0_0, st82_0_1, st82_0_2, reg82_1, st82_1_0, reg82_2, st82_2_0, st82_2_1, st82_2_2, st82_2_3, reg82_3, st82_3_0, st82_3_1, st82_3_2, reg82_4, st82_4_0, st82_4_1, st82_4_2, st82_4_3, reg82_5, st82_5_0, st82_5_1, hl]
  generalize hr : aloop _ _ _ _ _ = r
  revert r hr
  refine loop_all ps.length (fun i h' fr => ∃ t, Out h' p t 1 (l ++ cmdSl (ps.take i)) N ∧ OS h h' p tv t ∧ fr = C82_1 (.fn (.func 83) [] [.ptr p 0]) s (.int .i64 (ps.length : Int)) (.int .i64 (i : Int))) ?_ ?_
    ⟨tv, by simpa [cmdSl, cmds] using o, OS.refl _ _ _, by rw [cl82_1]; rfl⟩ (by omega)
  · rintro i h' fr hi ⟨t, o1, os1, e⟩ k hk
    have hm : ps[i]? = some ps[i] := List.getElem?_eq_getElem hi
    have htk := take_next hi
    have hmem : ps[i] ∈ ps := List.getElem_mem hi
    have hx : (ps.map Pt.cells)[i]? = some ps[i].cells := by rw [List.getElem?_map, hm]; rfl
    obtain ⟨id, off, i1, H⟩ := S.ix u58 z78 hx
    have hsz := szP_mem hmem
    have hok := okP_mem hv _ hmem
    have hta : szP (ps.take (i + 1)) = szP (ps.take i) + ps[i].sz := by
      rw [htk]
      have : ∀ (a : List Pt) (x : Pt), szP (a ++ [x]) = szP a + x.sz := fun a x => by
        induction a with
        | nil => simp [szP]
        | cons y a ih => simp only [List.cons_append, szP, ih]; omega
      exact this _ _
    have htl := szP_take ps (i + 1)
    have hcl := cmdSl_len (ps.take i)
    have hat := Pt.atoms hok
    generalize ps[i] = x at *
    obtain ⟨kd, tx, op, sk, kids, sc, cs⟩ := x
    simp only [Pt.ok] at hok
    obtain ⟨v1, v2, v3, v4⟩ := hok
    simp only [Pt.sz] at hsz hta
    simp only [Pt.cells] at hat H
    have qB1 : Quiet hB h' := os1.base qB (fun j hj => Nat.le_trans hBN (o.ge j hj))
    have r1 := ldS (H.quiet qB1) (n := 5) rfl
    obtain ⟨h2, f1, f2, f3, _⟩ := fill h' [.int .i64 0, .str [], .str [], .nilSl, .nilSl] [.int .i64 kd, .str tx, .str op, sk, sc] rfl
    have st := stV_agg (t := 78) (n := 5) (l := [.int .i64 kd, .str tx, .str op, sk, sc]) z78 rfl hat h'.next 0 (h'.alloc [.int .i64 0, .str [], .str [], .nilSl, .nilSl])
    rw [f1] at st
    simp only [Option.map_some] at st
    have r2 := ldS f2.has (n := 5) rfl
    have o2 := o1.quiet f3
    have hN2 : N ≤ h2.next := Nat.le_trans hN (Nat.le_trans os1.oth.next f3.next)
    obtain ⟨m2, rfl⟩ : ∃ m2, m = m2 + 1 := ⟨m - 1, by omega⟩
    have hl1 : (l ++ cmdSl (ps.take i)).length = l.length + (cmdSl (ps.take i)).length := List.length_append
    obtain ⟨t3, h3, e3, o3, os3⟩ := cmds83 (hB := hB) (kd := kd) (tx := tx) (op := op) (sk := sk) (sc := sc) (cs := cs) o2 hN2 v3 (by rw [hl1]; omega) m2
    have c3 : h3.cell? h'.next 3 = some sk := by
      have hr3 : Row h3 h'.next 0 [.int .i64 kd, .str tx, .str op, sk, sc] := f2.keep os3.oth (fun hj => by have := o1.lt _ hj; omega)
      have := hr3.cell (i := 3) rfl
      rwa [Nat.zero_add] at this
    have qB3 : Quiet hB h3 := os3.base (qB1.trans f3) (fun j hj => Nat.le_trans hBN (o2.ge j hj))
    obtain ⟨t4, h4, e4, o4, os4⟩ := ih (M - 1) (by omega) (hB := hB) (h := h3) (p := p) (N := N) (tv := t3) (s := sk) (ps := kids) (by omega) (by omega) (by simp only [List.length_append]; split <;> simp <;> omega) v2 v1 qB3 hBN (Nat.le_trans hN2 os3.oth.next) o3 (m2 + 1) (by omega)
    have d : decide ((i : Int) < (ps.length : Int)) = true := by simp; omega
    have w := wrap_succ i (by omega)
    rw [e]
    unfold C82_1 lp82_1
    simp (implicitDefEqProofs := false) only [run_seq, run_cond, opsS_cons, opsS_nil, sameH_f, sameH_t, run_block, run_loop, run_exit, run_ret, run_skip, ops_cons, ops_nil, ev_tmp, pureS_some, heapS_some, heapN_some, gdS_tt, gdS_ff, gdS_tf, gdS_ft, gdS_undef, List.getD_cons_succ, List.getD_cons_zero, List.set_cons_succ, List.set_cons_zero, Option.bind_some, regR_some, seqR_normal, seqR_ret, seqR_exit, fin0_ret, fin0_normal, fin1_ret, fin1_normal, finN_ret, finN_normal, List.map_cons, List.map_nil, lenV_some, pickV_t, pickV_f, callV_func, callV_yield, extV_tup, condR_true, condR_false, blockR_normal, blockR_ret, blockR_exit, if_true, List.nil_append, List.append_nil, List.cons_append, List.getElem?_cons_zero, List.getElem?_cons_succ, loopR_normal, loopR_exit, loopR_ret, Option.map_some, ite_true, reduceIte, reg82_0, st82_0_0, st82_0_1, st82_0_2, reg82_1, st82_1_0, reg82_2, st82_2_0, st82_2_1, st82_2_2, st82_2_3, reg82_3, st82_3_0, st82_3_1, st82_3_2, reg82_4, st82_4_0, st82_4_1, st82_4_2, st82_4_3, reg82_5, st82_5_0, st82_5_1, i_lss, d, i1, ld78, r1, new78, st, r2, e3, fa49_0, fa49_1, fa49_2, fa49_3, fa49_4, fa49_5, fa49_6, fa49_7, fa49_8, fa49_9, fa60_0, fa73_0, fa73_1, fa73_2, fa73_3, fa76_0, fa76_1, fa78_0, fa78_1, fa78_2, fa78_3, fa78_4, Nat.zero_add, ld58, c3, e4, i_add, w]
    refine hk _ _ ⟨t4, ?_, ((os1.trans (OS.of_quiet t f3)).trans os3).trans os4, by rw [cl82_1]⟩
    have ec : l ++ cmdSl (ps.take (i + 1)) = l ++ cmdSl (ps.take i) ++ (if kd = 6 then [sc] else []) ++ cmdSl kids := by
      rw [htk]
      unfold cmdSl
      rw [cmds_append]
      simp only [cmds, List.map_append, List.append_nil]
      split <;> simp
    rw [ec]
    exact o4
  · rintro h' fr ⟨t, o1, os1, e⟩ k
    have d : decide ((ps.length : Int) < (ps.length : Int)) = false := by simp
    rw [e]
    unfold C82_1 lp82_1
    simp (implicitDefEqProofs := false) only [run_seq, run_cond, opsS_cons, opsS_nil, sameH_f, sameH_t, run_block, run_loop, run_exit, run_ret, run_skip, ops_cons, ops_nil, ev_tmp, pureS_some, heapS_some, heapN_some, gdS_tt, gdS_ff, gdS_tf, gdS_ft, gdS_undef, List.getD_cons_succ, List.getD_cons_zero, List.set_cons_succ, List.set_cons_zero, Option.bind_some, regR_some, seqR_normal, seqR_ret, seqR_exit, fin0_ret, fin0_normal, fin1_ret, fin1_normal, finN_ret, finN_normal, List.map_cons, List.map_nil, lenV_some, pickV_t, pickV_f, callV_func, callV_yield, extV_tup, condR_true, condR_false, blockR_normal, blockR_ret, blockR_exit, if_true, List.nil_append, List.append_nil, List.cons_append, List.getElem?_cons_zero, List.getElem?_cons_succ, loopR_normal, loopR_exit, loopR_ret, Option.map_some, ite_true, reduceIte, reg82_0, st82_0_0, st82_0_1, st82_0_2, reg82_1, st82_1_0, reg82_2, st82_2_0, st82_2_1, st82_2_2, st82_2_3, reg82_3, st82_3_0, st82_3_1, st82_3_2, reg82_4, st82_4_0, st82_4_1, st82_4_2, st82_4_3, reg82_5, st82_5_0, st82_5_1, i_lss, d]
    rw [List.take_length] at o1
    exact ⟨t, h', rfl, o1, os1⟩

/-- A slice whose block is one of those from N on. -/
def SlNew (s : AV) (N : Nat) : Prop := ∀ id off len es c, s = .sl id off len es c → N ≤ id
theorem nrm_own3 {h0 h' : AH} {s : AV} {es : Nat} {L : List (List AV)} (o : Own h' s es L.flatten h0.next) (q : Quiet h0 h') (hL : ∀ x ∈ L, x.length = es) (he : es ≠ 0) (hold : ∀ a ∈ L.flatten, oldAV h0.next a = true) :
    ∃ s2 h2, nrm h0 (some (s, h')) = some (s2, h2) ∧ Sl h2 s2 es L ∧ Quiet h0 h2 ∧ SlNew s2 h0.next := by
  obtain ⟨s2, h2, g1, g2, g3, g4⟩ := nrm_own' o q hL he hold
  refine ⟨s2, h2, g1, g2, g3, fun id off len es c e => ?_⟩
  rcases g4 with ⟨rfl, _⟩ | ⟨id', len', c', rfl, _, hn, _⟩
  · cases e
  · cases e; exact hn
theorem Sl.keep {h h' : AH} {s : AV} {es : Nat} {L : List (List AV)} {F : Nat → Prop} (S : Sl h s es L) (o : Other F h h') (hF : ∀ id off len es c, s = .sl id off len es c → ¬ F id) : Sl h' s es L :=
  ⟨S.1, S.2.imp (fun ⟨e, d⟩ => ⟨e, d.imp_right fun ⟨id, off, c, e2, hl⟩ => ⟨id, off, c, e2, Nat.lt_of_lt_of_le hl o.next⟩⟩) (fun ⟨id, off, c, e, H⟩ => ⟨id, off, c, e, H.keep o (hF _ _ _ _ _ e)⟩)⟩
theorem cmds70 {h : AH} {s : AV} {ps : List Pt} (hb : szP ps ≤ 1048576) (hv : okP h ps) (S : Sl h s 5 (ps.map Pt.cells)) (n : Nat) (hn : 4 * szP ps + 3 ≤ n) :
    ∃ s2 h2, X n (.func 70) [.agg [s]] h = some (s2, h2) ∧ Sl h2 s2 1 ((cmds ps).map fun c => [c.1]) ∧ Quiet h h2 ∧ SlNew s2 h.next := by
  obtain ⟨m, rfl⟩ : ∃ m, n = m + 1 := ⟨n - 1, by omega⟩
  have q1 : Quiet h (h.alloc [s]) := Other.alloc _ _ _
  have c0 : (h.alloc [s]).cell? h.next 0 = some s := cell_alloc _ _ _
  have n1 : (h.alloc [s]).next = h.next + 1 := rfl
  generalize hh1 : h.alloc [s] = h1 at *
  have q2 : Quiet h1 (h1.alloc [.nilSl]) := Other.alloc _ _ _
  have R := Row.new h1 [.nilSl]
  have c02 : (h1.alloc [.nilSl]).cell? h.next 0 = some s := by
    rw [AH.cell?_eq, AH.blk?_alloc, if_neg (by omega), ← AH.cell?_eq]; exact c0
  have o : Out (h1.alloc [.nilSl]) h1.next .nilSl 1 [] h.next := ⟨R, Own.nil _ _ _, by omega, fun _ _ _ _ e => by cases e⟩
  generalize hh2 : h1.alloc [.nilSl] = h2 at *
  obtain ⟨t, h3, e1, o3, os⟩ := each82 (szP ps) (hB := h) (h := h2) (p := h1.next) (N := h.next) (Nat.le_refl _) hb (by simp; omega) hv S (q1.trans q2) (Nat.le_refl _) (by have := q2.next; omega) o m (by omega)
  have cp := o3.cell
  rw [ent70]
  unfold cd70
  simp (implicitDefEqProofs := false) only [run_seq, run_cond, opsS_cons, opsS_nil, sameH_f, sameH_t, run_block, run_loop, run_exit, run_ret, run_skip, ops_cons, ops_nil, ev_tmp, pureS_some, heapS_some, heapN_some, gdS_tt, gdS_ff, gdS_tf, gdS_ft, gdS_undef, List.getD_cons_succ, List.getD_cons_zero, List.set_cons_succ, List.set_cons_zero, Option.bind_some, regR_some, seqR_normal, seqR_ret, seqR_exit, fin0_ret, fin0_normal, fin1_ret, fin1_normal, finN_ret, finN_normal, List.map_cons, List.map_nil, lenV_some, pickV_t, pickV_f, callV_func, callV_yield, extV_tup, condR_true, condR_false, blockR_normal, blockR_ret, blockR_exit, if_true, List.nil_append, List.append_nil, List.cons_append, List.getElem?_cons_zero, List.getElem?_cons_succ, loopR_normal, loopR_exit, loopR_ret, Option.map_some, ite_true, reduceIte, reg70_0, st70_0_0, st70_0_1, reg70_1, st70_1_0, reg70_2, st70_2_0, st70_2_1, st70_2_2, st70_2_3, reg70_3, st70_3_0, st70_3_1, box_agg, hh1, new89, hh2, fa49_0, fa49_1, fa49_2, fa49_3, fa49_4, fa49_5, fa49_6, fa49_7, fa49_8, fa49_9, fa60_0, fa73_0, fa73_1, fa73_2, fa73_3, fa76_0, fa76_1, fa78_0, fa78_1, fa78_2, fa78_3, fa78_4, Nat.zero_add, ld58, c02, e1, ld89, cp]
  have ow := o3.own
  rw [List.nil_append, ← cmdSl_flat] at ow
  exact nrm_own3 ow (os.base (q1.trans q2) (fun j hj => o.ge j hj)) (fun x hx => by obtain ⟨c, _, rfl⟩ := List.mem_map.mp hx; rfl) (by omega) (fun a ha => by
    rw [cmdSl_flat] at ha
    obtain ⟨c, hc, rfl⟩ := List.mem_map.mp ha
    exact (cmds_ok hv c hc).1.old)
end Go.Proofs.Ytgnacecplaemlaa
