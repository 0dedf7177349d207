/-
  The reference's Cmds; Count.
-/
import Derived.Test.YtgnacecplaemlaaW3
import Derived.Test.YtgnacecplaemlaaH2
namespace Go.Proofs.Ytgnacecplaemlaa
open AI
set_option linter.unusedSimpArgs false
theorem AI.Other.beyond {h0 h h' : AH} (q : Quiet h0 h) (b : Other (fun j => h0.next ≤ j) h h') : Quiet h0 h' := q.plus b fun _ hj => .inr hj
theorem AI.Other.more {h0 h : AH} (q : Quiet h0 h) (l : List AV) : Quiet h0 (h.alloc l) := q.trans (Other.alloc _ _ _)
theorem cmds_append : ∀ (a b : List Pt), cmds (a ++ b) = cmds a ++ cmds b
  | [], b => by simp [cmds]
  | .mk k t o sk kids sc cs :: a, b => by simp [cmds, cmds_append a b]
theorem take_next {α : Type} {l : List α} {i : Nat} (hi : i < l.length) : l.take (i + 1) = l.take i ++ [l[i]] := by
  rw [List.take_add_one, List.getElem?_eq_getElem hi]; rfl
theorem szP_take (l : List Pt) (i : Nat) : szP (l.take i) ≤ szP l := by
  induction l generalizing i with
  | nil => simp [szP]
  | cons p l ih => cases i with
    | zero => simp [szP]
    | succ i => have := ih i; simp only [List.take_succ_cons, szP]; omega
theorem atoms_map {α : Type} (g : α → AV) : ∀ (l : List α), (∀ x ∈ l, (g x).atom = true) → atoms (l.map g) = true
  | [], _ => rfl
  | x :: l, h => by simp only [List.map_cons, atoms, h x (by simp), atoms_map g l (fun y hy => h y (by simp [hy])), Bool.and_self]
/-- The slices of the commands in parts. -/
def cmdSl (ps : List Pt) : List AV := (cmds ps).map (·.1)
theorem cmdSl_flat (ps : List Pt) : ((cmds ps).map fun c => [c.1]).flatten = cmdSl ps := by
  unfold cmdSl
  induction cmds ps with
  | nil => rfl
  | cons c l ih => simp [ih]
theorem cmdSl_atoms {h : AH} {ps : List Pt} (hv : okP h ps) : atoms (cmdSl ps) = true := atoms_map _ _ fun c hc => (cmds_ok hv c hc).1.atom
theorem cmdSl_len (ps : List Pt) : (cmdSl ps).length ≤ szP ps := by unfold cmdSl; rw [List.length_map]; exact cmds_len ps

theorem cmds67 : ∀ (N : Nat) {h : AH} {s : AV} {ps : List Pt}, szP ps ≤ N → szP ps ≤ 1048576 → okP h ps → Sl h s 5 (ps.map Pt.cells) → ∀ n, 4 * szP ps + 2 ≤ n →
    ∃ s2 h2, X n (.func 67) [s] h = some (s2, h2) ∧ Sl h2 s2 1 ((cmds ps).map fun c => [c.1]) ∧ Quiet h h2 := by
    intro N
    induction N using Nat.strongRecOn
    rename_i N ih
    intro h s ps hN hb hv S n hn
    obtain ⟨m, rfl⟩ : ∃ m, n = m + 1 := ⟨n - 1, by omega⟩
    have hlen := szP_len ps
    have hl : alen Try.prog 58 s = some ps.length := by rw [S.alen u58, List.length_map]
    rw [ent67]
    unfold cd67
    simp (implicitDefEqProofs := false) only [run_seq, run_cond, opsS_cons, opsS_nil, sameH_f, sameH_t, run_block, run_loop, run_exit, run_ret, run_skip, ops_cons, ops_nil, ev_tmp, pureS_some, heapS_some, heapN_some, gdS_tt, gdS_ff, gdS_tf, gdS_ft, gdS_undef, List.getD_cons_succ, List.getD_cons_zero, List.set_cons_succ, List.set_cons_zero, Option.bind_some, regR_some, seqR_normal, seqR_ret, seqR_exit, fin0_ret, fin0_normal, fin1_ret, fin1_normal, finN_ret, finN_normal, List.map_cons, List.map_nil, lenV_some, pickV_t, pickV_f, callV_func, callV_yield, extV_tup, condR_true, condR_false, blockR_normal, blockR_ret, blockR_exit, if_true, List.nil_append, List.append_nil, List.cons_append, List.getElem?_cons_zero, List.getElem?_cons_succ, loopR_normal, loopR_exit, loopR_ret, Option.map_some, ite_true, reduceIte, reg67_0, st67_0_0, reg67_1, st67_1_0, reg67_2, st67_2_0, reg67_3, st67_3_0, st67_3_1, st67_3_2, st67_3_3, reg67_5, st67_5_0, st67_5_1, st67_5_2, st67_5_3, st67_5_4, st67_5_5, reg67_6, st67_6_0, st67_6_1, st67_6_2, st67_6_3, st67_6_4, st67_6_5, st67_6_6, st67_6_7, st67_6_8, reg67_7, st67_7_0, st67_7_1, st67_7_2, st67_7_3, st67_7_4, st67_7_5, st67_7_6, st67_7_7, st67_7_8, reg67_4, st67_4_0, st67_4_1, st67_4_2, reg67_8, st67_8_0, st67_8_1]
    generalize hr : aloop _ _ _ _ _ = r
    revert r hr
    refine loop_all ps.length (fun i h' fr => ∃ t, Quiet h h' ∧ Own h' t 1 (cmdSl (ps.take i)) h.next ∧ fr = C67_3 s t (.int .i64 (i : Int))) ?_ ?_ ⟨.nilSl, Other.refl _ _, by simpa [cmdSl, cmds] using Own.nil h 1 h.next, by rw [cl67_3]; rfl⟩ (by omega)
    · rintro i h' fr hi ⟨t, q, o, e⟩ k hk
      have hm : ps[i]? = some ps[i] := List.getElem?_eq_getElem hi
      have htk := take_next hi
      have hmem : ps[i] ∈ ps := List.getElem_mem hi
      have hx : (ps.map Pt.cells)[i]? = some ps[i].cells := by rw [List.getElem?_map, hm]; rfl
      obtain ⟨id, off, i1, H⟩ := S.ix u58 z78 hx
      have hsz := szP_mem hmem
      have hok := okP_mem hv _ hmem
      have htl := szP_take ps i
      have hcl := cmdSl_len (ps.take i)
      generalize ps[i] = x at *
      obtain ⟨kd, tx, op, sk, kids, sc, cs⟩ := x
      simp only [Pt.ok] at hok
      obtain ⟨v1, v2, v3, v4⟩ := hok
      simp only [Pt.sz] at hsz
      have H1 := H.quiet q
      have c0 : h'.cell? id (off + 0) = some (.int .i64 kd) := H1.cell (i := 0) rfl
      have d : decide ((i : Int) < (ps.length : Int)) = true := by simp; omega
      have w := wrap_succ i (by omega)
      rw [e]
      have fin : ∀ (t1 : AV) (h1 : AH), Quiet h h1 → Own h1 t1 1 (cmdSl (ps.take i) ++ (if kd = 6 then [sc] else [])) h.next → ∃ s2 h2 s3 h3,
          h1.cell? id (off + 3) = some sk ∧ X m (.func 67) [sk] h1 = some (s2, h2) ∧ aappend Try.prog 89 89 t1 s2 h2 = some (s3, h3) ∧ Quiet h h3 ∧ Own h3 s3 1 (cmdSl (ps.take (i + 1))) h.next := by
        intro t1 h1 q1 o1
        have hkd : okP h1 kids := okP.quiet q1 v2
        obtain ⟨s2, h2, r1, r2, r3⟩ := ih (N - 1) (by omega) (h := h1) (s := sk) (ps := kids) (by omega) (by omega) hkd (v1.quiet q1) m (by omega)
        have hln : (cmdSl (ps.take i) ++ (if kd = 6 then [sc] else [])).length ≤ 1048576 + 1 := by
          rw [List.length_append]; split <;> simp <;> omega
        have hln2 := cmdSl_len kids
        have hfl : ((cmds kids).map fun c => [c.1]).length = (cmdSl kids).length := by simp [cmdSl]
        obtain ⟨s3, h3, p1, p2, p3, _⟩ := own_app (o1.quiet r3) (Nat.le_trans q1.next r3.next) el47 u89 u89 rfl r2.alenOf (by rw [r2.first, cmdSl_flat]) (by rw [hfl, Nat.mul_one]) (cmdSl_atoms hkd) (by omega)
        refine ⟨s2, h2, s3, h3, (H.quiet q1).cell (i := 3) rfl, r1, p1, (q1.trans r3).beyond p3, ?_⟩
        rw [htk]
        have ec : cmdSl (ps.take i ++ [.mk kd tx op sk kids sc cs]) = cmdSl (ps.take i) ++ (if kd = 6 then [sc] else []) ++ cmdSl kids := by
          unfold cmdSl
          rw [cmds_append]
          simp only [cmds, List.map_append, List.append_nil]
          split <;> simp
        rw [ec]
        exact p2
      by_cases hk6 : kd = 6
      · have t6 : (kd == (6 : Int)) = true := by simp [hk6]
        have c4 : h'.cell? id (off + 4) = some sc := H1.cell (i := 4) rfl
        have hat : sc.atom = true := v3.atom
        have b1 := bsl47 h' sc hat
        have hs1 : (cmdSl (ps.take i)).length + [sc].length ≤ 1048577 := by simp; omega
        obtain ⟨t1, h1, p1, p2, p3, _⟩ := own_app (x := .sl h'.next 0 1 1 (some 1)) (new := [sc]) (n := 1) (o.quiet (Other.alloc _ h' [sc])) (Nat.le_trans q.next (Nat.le_succ _)) el47 u89 u89 rfl rfl ((sl_one sc (some 1)).first) rfl (by simp [atoms, hat]) (by omega)
        obtain ⟨s2, h2, s3, h3, f1, f2, f3, f4, f5⟩ := fin t1 h1 ((q.more [sc]).beyond p3) (by rw [if_pos hk6]; exact p2)
        unfold C67_3 lp67_3
        simp (implicitDefEqProofs := false) only [run_seq, run_cond, opsS_cons, opsS_nil, sameH_f, sameH_t, run_block, run_loop, run_exit, run_ret, run_skip, ops_cons, ops_nil, ev_tmp, pureS_some, heapS_some, heapN_some, gdS_tt, gdS_ff, gdS_tf, gdS_ft, gdS_undef, List.getD_cons_succ, List.getD_cons_zero, List.set_cons_succ, List.set_cons_zero, Option.bind_some, regR_some, seqR_normal, seqR_ret, seqR_exit, fin0_ret, fin0_normal, fin1_ret, fin1_normal, finN_ret, finN_normal, List.map_cons, List.map_nil, lenV_some, pickV_t, pickV_f, callV_func, callV_yield, extV_tup, condR_true, condR_false, blockR_normal, blockR_ret, blockR_exit, if_true, List.nil_append, List.append_nil, List.cons_append, List.getElem?_cons_zero, List.getElem?_cons_succ, loopR_normal, loopR_exit, loopR_ret, Option.map_some, ite_true, reduceIte, reg67_0, st67_0_0, reg67_1, st67_1_0, reg67_2, st67_2_0, reg67_3, st67_3_0, st67_3_1, st67_3_2, st67_3_3, reg67_5, st67_5_0, st67_5_1, st67_5_2, st67_5_3, st67_5_4, st67_5_5, reg67_6, st67_6_0, st67_6_1, st67_6_2, st67_6_3, st67_6_4, st67_6_5, st67_6_6, st67_6_7, st67_6_8, reg67_7, st67_7_0, st67_7_1, st67_7_2, st67_7_3, st67_7_4, st67_7_5, st67_7_6, st67_7_7, st67_7_8, reg67_4, st67_4_0, st67_4_1, st67_4_2, reg67_8, st67_8_0, st67_8_1, hl, i_lss, d, i1, fa78_0, fa78_3, fa78_4, ld3, ld47, ld58, c0, c4, i_eql, t6, b1, p1, f1, f2, f3, i_add, w]
        exact hk _ _ ⟨s3, f4, f5, by rw [cl67_3]⟩
      · have t6 : (kd == (6 : Int)) = false := by simp [hk6]
        obtain ⟨s2, h2, s3, h3, f1, f2, f3, f4, f5⟩ := fin t h' q (by rw [if_neg hk6, List.append_nil]; exact o)
        unfold C67_3 lp67_3
        simp (implicitDefEqProofs := false) only [run_seq, run_cond, opsS_cons, opsS_nil, sameH_f, sameH_t, run_block, run_loop, run_exit, run_ret, run_skip, ops_cons, ops_nil, ev_tmp, pureS_some, heapS_some, heapN_some, gdS_tt, gdS_ff, gdS_tf, gdS_ft, gdS_undef, List.getD_cons_succ, List.getD_cons_zero, List.set_cons_succ, List.set_cons_zero, Option.bind_some, regR_some, seqR_normal, seqR_ret, seqR_exit, fin0_ret, fin0_normal, fin1_ret, fin1_normal, finN_ret, finN_normal, List.map_cons, List.map_nil, lenV_some, pickV_t, pickV_f, callV_func, callV_yield, extV_tup, condR_true, condR_false, blockR_normal, blockR_ret, blockR_exit, if_true, List.nil_append, List.append_nil, List.cons_append, List.getElem?_cons_zero, List.getElem?_cons_succ, loopR_normal, loopR_exit, loopR_ret, Option.map_some, ite_true, reduceIte, reg67_0, st67_0_0, reg67_1, st67_1_0, reg67_2, st67_2_0, reg67_3, st67_3_0, st67_3_1, st67_3_2, st67_3_3, reg67_5, st67_5_0, st67_5_1, st67_5_2, st67_5_3, st67_5_4, st67_5_5, reg67_6, st67_6_0, st67_6_1, st67_6_2, st67_6_3, st67_6_4, st67_6_5, st67_6_6, st67_6_7, st67_6_8, reg67_7, st67_7_0, st67_7_1, st67_7_2, st67_7_3, st67_7_4, st67_7_5, st67_7_6, st67_7_7, st67_7_8, reg67_4, st67_4_0, st67_4_1, st67_4_2, reg67_8, st67_8_0, st67_8_1, hl, i_lss, d, i1, fa78_0, fa78_3, fa78_4, ld3, ld47, ld58, c0, i_eql, t6, f1, f2, f3, i_add, w]
        exact hk _ _ ⟨s3, f4, f5, by rw [cl67_3]⟩
    · rintro h' fr ⟨t, q, o, e⟩ k
      have d : decide ((ps.length : Int) < (ps.length : Int)) = false := by simp
      rw [e]
      unfold C67_3 lp67_3
      simp (implicitDefEqProofs := false) only [run_seq, run_cond, opsS_cons, opsS_nil, sameH_f, sameH_t, run_block, run_loop, run_exit, run_ret, run_skip, ops_cons, ops_nil, ev_tmp, pureS_some, heapS_some, heapN_some, gdS_tt, gdS_ff, gdS_tf, gdS_ft, gdS_undef, List.getD_cons_succ, List.getD_cons_zero, List.set_cons_succ, List.set_cons_zero, Option.bind_some, regR_some, seqR_normal, seqR_ret, seqR_exit, fin0_ret, fin0_normal, fin1_ret, fin1_normal, finN_ret, finN_normal, List.map_cons, List.map_nil, lenV_some, pickV_t, pickV_f, callV_func, callV_yield, extV_tup, condR_true, condR_false, blockR_normal, blockR_ret, blockR_exit, if_true, List.nil_append, List.append_nil, List.cons_append, List.getElem?_cons_zero, List.getElem?_cons_succ, loopR_normal, loopR_exit, loopR_ret, Option.map_some, ite_true, reduceIte, reg67_0, st67_0_0, reg67_1, st67_1_0, reg67_2, st67_2_0, reg67_3, st67_3_0, st67_3_1, st67_3_2, st67_3_3, reg67_5, st67_5_0, st67_5_1, st67_5_2, st67_5_3, st67_5_4, st67_5_5, reg67_6, st67_6_0, st67_6_1, st67_6_2, st67_6_3, st67_6_4, st67_6_5, st67_6_6, st67_6_7, st67_6_8, reg67_7, st67_7_0, st67_7_1, st67_7_2, st67_7_3, st67_7_4, st67_7_5, st67_7_6, st67_7_7, st67_7_8, reg67_4, st67_4_0, st67_4_1, st67_4_2, reg67_8, st67_8_0, st67_8_1, hl, i_lss, d]
      rw [List.take_length, ← cmdSl_flat] at o
      exact nrm_own o q (fun x hx => by obtain ⟨c, _, rfl⟩ := List.mem_map.mp hx; rfl) (by omega) (fun a ha => by
        rw [cmdSl_flat] at ha
        obtain ⟨c, hc, rfl⟩ := List.mem_map.mp ha
        exact (cmds_ok hv c hc).1.old)
end Go.Proofs.Ytgnacecplaemlaa
