/-
  How much there is (the laws' guard): some number, whatever it is; the heap stays.
-/
import Derived.Test.YtgnacecplaemlaaW6
import Derived.Test.YtgnacecplaemlaaH1
namespace Go.Proofs.Ytgnacecplaemlaa
open AI
set_option linter.unusedSimpArgs false
def Num (n : Nat) (f : FuncId) (args : List AV) (h : AH) : Prop := ∃ z : Int, X n (.func f) args h = some (.int .i64 z, h)

theorem much65 : ∀ (N : Nat) {h : AH} {s : AV} {ps : List Pt}, szP ps ≤ N → szP ps ≤ 1048576 → okP h ps → Sl h s 5 (ps.map Pt.cells) → ∀ n, 8 * szP ps + 2 ≤ n → Num n 65 [s] h := by
  intro N
  induction N using Nat.strongRecOn
  rename_i N ih
  intro h s ps hN hb hv S n hn
  obtain ⟨m, rfl⟩ : ∃ m, n = m + 1 := ⟨n - 1, by omega⟩
  have hlen := szP_len ps
  have hl : alen Try.prog 58 s = some ps.length := by rw [S.alen u58, List.length_map]
  unfold Num
  rw [ent65]
  unfold cd65
  simp (implicitDefEqProofs := false) only [run_seq, run_cond, opsS_cons, opsS_nil, sameH_f, sameH_t, run_block, run_loop, run_exit, run_ret, run_skip, ops_cons, ops_nil, ev_tmp, pureS_some, heapS_some, heapN_some, gdS_tt, gdS_ff, gdS_tf, gdS_ft, gdS_undef, List.getD_cons_succ, List.getD_cons_zero, List.set_cons_succ, List.set_cons_zero, Option.bind_some, regR_some, seqR_normal, seqR_ret, seqR_exit, fin0_ret, fin0_normal, fin1_ret, fin1_normal, finN_ret, finN_normal, List.map_cons, List.map_nil, lenV_some, pickV_t, pickV_f, callV_func, callV_yield, extV_tup, condR_true, condR_false, blockR_normal, blockR_ret, blockR_exit, if_true, List.nil_append, List.append_nil, List.cons_append, List.getElem?_cons_zero, List.getElem?_cons_succ, loopR_normal, loopR_exit, loopR_ret, Option.map_some, ite_true, reduceIte, reg65_0, st65_0_0, reg65_1, st65_1_0, st65_1_1, st65_1_2, reg65_2, st65_2_0, reg65_3, st65_3_0, st65_3_1, st65_3_2, st65_3_3, st65_3_4, st65_3_5, st65_3_6, st65_3_7, reg65_5, st65_5_0, st65_5_1, st65_5_2, st65_5_3, st65_5_4, st65_5_5, st65_5_6, st65_5_7, st65_5_8, st65_5_9, st65_5_10, st65_5_11, st65_5_12, st65_5_13, st65_5_14, st65_5_15, st65_5_16, st65_5_17, st65_5_18, st65_5_19, st65_5_20, st65_5_21, st65_5_22, st65_5_23, st65_5_24, st65_5_25, st65_5_26, st65_5_27, st65_5_28, st65_5_29, st65_5_30, st65_5_31, reg65_4, st65_4_0, st65_4_1, st65_4_2, reg65_6, st65_6_0, st65_6_1, hl]
  generalize hr : aloop _ _ _ _ _ = r
  revert r hr
  refine loop_all ps.length (fun i h' fr => ∃ z : Int, h' = h ∧ fr = C65_3 s (.int .i64 z) (.int .i64 (i : Int))) ?_ ?_ ⟨(ps.length : Int), rfl, by rw [cl65_3]; rfl⟩ (by omega)
  · rintro i h' fr hi ⟨z, rfl, e⟩ k hk
    have hm : ps[i]? = some ps[i] := List.getElem?_eq_getElem hi
    have hmem : ps[i] ∈ ps := List.getElem_mem hi
    have hx : (ps.map Pt.cells)[i]? = some ps[i].cells := by rw [List.getElem?_map, hm]; rfl
    obtain ⟨id, off, i1, H⟩ := S.ix u58 z78 hx
    have hsz := szP_mem hmem
    have hok := okP_mem hv _ hmem
    generalize ps[i] = x at *
    obtain ⟨kd, tx, op, sk, kids, sc, cs⟩ := x
    simp only [Pt.ok] at hok
    obtain ⟨v1, v2, v3, v4⟩ := hok
    simp only [Pt.sz] at hsz
    have d : decide ((i : Int) < (ps.length : Int)) = true := by simp; omega
    have w := wrap_succ i (by omega)
    rw [e]
    by_cases hz : z ≤ 1000
    · have d2 : decide (z ≤ 1000) = true := by simp [hz]
      have c1 : h'.cell? id (off + 1) = some (.str tx) := H.cell (i := 1) rfl
      have c2 : h'.cell? id (off + 2) = some (.str op) := H.cell (i := 2) rfl
      have c3 : h'.cell? id (off + 3) = some sk := H.cell (i := 3) rfl
      have c4 : h'.cell? id (off + 4) = some sc := H.cell (i := 4) rfl
      have hl4 : alen Try.prog 47 sc = some cs.length := by rw [v3.alen u47, List.length_map]
      obtain ⟨z2, e2⟩ := ih (N - 1) (by omega) (h := h') (s := sk) (ps := kids) (by omega) (by omega) v2 v1 m (by omega)
      unfold C65_3 lp65_3
      simp (implicitDefEqProofs := false) only [run_seq, run_cond, opsS_cons, opsS_nil, sameH_f, sameH_t, run_block, run_loop, run_exit, run_ret, run_skip, ops_cons, ops_nil, ev_tmp, pureS_some, heapS_some, heapN_some, gdS_tt, gdS_ff, gdS_tf, gdS_ft, gdS_undef, List.getD_cons_succ, List.getD_cons_zero, List.set_cons_succ, List.set_cons_zero, Option.bind_some, regR_some, seqR_normal, seqR_ret, seqR_exit, fin0_ret, fin0_normal, fin1_ret, fin1_normal, finN_ret, finN_normal, List.map_cons, List.map_nil, lenV_some, pickV_t, pickV_f, callV_func, callV_yield, extV_tup, condR_true, condR_false, blockR_normal, blockR_ret, blockR_exit, if_true, List.nil_append, List.append_nil, List.cons_append, List.getElem?_cons_zero, List.getElem?_cons_succ, loopR_normal, loopR_exit, loopR_ret, Option.map_some, ite_true, reduceIte, reg65_0, st65_0_0, reg65_1, st65_1_0, st65_1_1, st65_1_2, reg65_2, st65_2_0, reg65_3, st65_3_0, st65_3_1, st65_3_2, st65_3_3, st65_3_4, st65_3_5, st65_3_6, st65_3_7, reg65_5, st65_5_0, st65_5_1, st65_5_2, st65_5_3, st65_5_4, st65_5_5, st65_5_6, st65_5_7, st65_5_8, st65_5_9, st65_5_10, st65_5_11, st65_5_12, st65_5_13, st65_5_14, st65_5_15, st65_5_16, st65_5_17, st65_5_18, st65_5_19, st65_5_20, st65_5_21, st65_5_22, st65_5_23, st65_5_24, st65_5_25, st65_5_26, st65_5_27, st65_5_28, st65_5_29, st65_5_30, st65_5_31, reg65_4, st65_4_0, st65_4_1, st65_4_2, reg65_6, st65_6_0, st65_6_1, fa49_0, fa49_1, fa49_2, fa49_3, fa49_4, fa49_5, fa49_6, fa49_7, fa49_8, fa49_9, fa60_0, fa73_0, fa73_1, fa73_2, fa73_3, fa76_0, fa76_1, fa78_0, fa78_1, fa78_2, fa78_3, fa78_4, hl, i_lss, i_leq, d, d2, i1, ld9, ld47, ld58, c1, c2, c3, c4, len9, hl4, i_quo10, i_add, e2, w]
      exact hk _ _ ⟨_, rfl, by rw [cl65_3]⟩
    · have d2 : decide (z ≤ 1000) = false := by simp [hz]
      unfold C65_3 lp65_3
      simp (implicitDefEqProofs := false) only [run_seq, run_cond, opsS_cons, opsS_nil, sameH_f, sameH_t, run_block, run_loop, run_exit, run_ret, run_skip, ops_cons, ops_nil, ev_tmp, pureS_some, heapS_some, heapN_some, gdS_tt, gdS_ff, gdS_tf, gdS_ft, gdS_undef, List.getD_cons_succ, List.getD_cons_zero, List.set_cons_succ, List.set_cons_zero, Option.bind_some, regR_some, seqR_normal, seqR_ret, seqR_exit, fin0_ret, fin0_normal, fin1_ret, fin1_normal, finN_ret, finN_normal, List.map_cons, List.map_nil, lenV_some, pickV_t, pickV_f, callV_func, callV_yield, extV_tup, condR_true, condR_false, blockR_normal, blockR_ret, blockR_exit, if_true, List.nil_append, List.append_nil, List.cons_append, List.getElem?_cons_zero, List.getElem?_cons_succ, loopR_normal, loopR_exit, loopR_ret, Option.map_some, ite_true, reduceIte, reg65_0, st65_0_0, reg65_1, st65_1_0, st65_1_1, st65_1_2, reg65_2, st65_2_0, reg65_3, st65_3_0, st65_3_1, st65_3_2, st65_3_3, st65_3_4, st65_3_5, st65_3_6, st65_3_7, reg65_5, st65_5_0, st65_5_1, st65_5_2, st65_5_3, st65_5_4, st65_5_5, st65_5_6, st65_5_7, st65_5_8, st65_5_9, st65_5_10, st65_5_11, st65_5_12, st65_5_13, st65_5_14, st65_5_15, st65_5_16, st65_5_17, st65_5_18, st65_5_19, st65_5_20, st65_5_21, st65_5_22, st65_5_23, st65_5_24, st65_5_25, st65_5_26, st65_5_27, st65_5_28, st65_5_29, st65_5_30, st65_5_31, reg65_4, st65_4_0, st65_4_1, st65_4_2, reg65_6, st65_6_0, st65_6_1, hl, i_lss, i_leq, d, d2]
      exact ⟨z, nrm_flat (Other.refl _ _) rfl⟩
  · rintro h' fr ⟨z, rfl, e⟩ k
    have d : decide ((ps.length : Int) < (ps.length : Int)) = false := by simp
    rw [e]
    unfold C65_3 lp65_3
    simp (implicitDefEqProofs := false) only [run_seq, run_cond, opsS_cons, opsS_nil, sameH_f, sameH_t, run_block, run_loop, run_exit, run_ret, run_skip, ops_cons, ops_nil, ev_tmp, pureS_some, heapS_some, heapN_some, gdS_tt, gdS_ff, gdS_tf, gdS_ft, gdS_undef, List.getD_cons_succ, List.getD_cons_zero, List.set_cons_succ, List.set_cons_zero, Option.bind_some, regR_some, seqR_normal, seqR_ret, seqR_exit, fin0_ret, fin0_normal, fin1_ret, fin1_normal, finN_ret, finN_normal, List.map_cons, List.map_nil, lenV_some, pickV_t, pickV_f, callV_func, callV_yield, extV_tup, condR_true, condR_false, blockR_normal, blockR_ret, blockR_exit, if_true, List.nil_append, List.append_nil, List.cons_append, List.getElem?_cons_zero, List.getElem?_cons_succ, loopR_normal, loopR_exit, loopR_ret, Option.map_some, ite_true, reduceIte, reg65_0, st65_0_0, reg65_1, st65_1_0, st65_1_1, st65_1_2, reg65_2, st65_2_0, reg65_3, st65_3_0, st65_3_1, st65_3_2, st65_3_3, st65_3_4, st65_3_5, st65_3_6, st65_3_7, reg65_5, st65_5_0, st65_5_1, st65_5_2, st65_5_3, st65_5_4, st65_5_5, st65_5_6, st65_5_7, st65_5_8, st65_5_9, st65_5_10, st65_5_11, st65_5_12, st65_5_13, st65_5_14, st65_5_15, st65_5_16, st65_5_17, st65_5_18, st65_5_19, st65_5_20, st65_5_21, st65_5_22, st65_5_23, st65_5_24, st65_5_25, st65_5_26, st65_5_27, st65_5_28, st65_5_29, st65_5_30, st65_5_31, reg65_4, st65_4_0, st65_4_1, st65_4_2, reg65_6, st65_6_0, st65_6_1, hl, i_lss, d]
    exact ⟨z, nrm_flat (Other.refl _ _) rfl⟩

/-- All lists of commands that stand in parts. -/
def allc : List Pt → List (AV × List Nd)
  | [] => []
  | .mk _ _ _ _ kids sc cs :: l => (sc, cs) :: (allc kids ++ allc l)
theorem allc_ok {h : AH} : ∀ {ps : List Pt}, okP h ps → ∀ c ∈ allc ps, Sl h c.1 10 (c.2.map Nd.cells) ∧ okN h c.2 ∧ szN c.2 + 1 ≤ szP ps
  | [], _, c, hc => by simp [allc] at hc
  | .mk k t o sk kids sc cs :: l, hv, c, hc => by
    simp only [okP, Pt.ok] at hv
    obtain ⟨⟨v1, v2, v3, v4⟩, v5⟩ := hv
    simp only [allc, List.mem_cons, List.mem_append] at hc
    simp only [szP, Pt.sz]
    rcases hc with rfl | hc | hc
    · exact ⟨v3, v4, by dsimp only; omega⟩
    · obtain ⟨q1, q2, q3⟩ := allc_ok v2 c hc; exact ⟨q1, q2, by omega⟩
    · obtain ⟨q1, q2, q3⟩ := allc_ok v5 c hc; exact ⟨q1, q2, by omega⟩
theorem allc_mem : ∀ {ps : List Pt} {k : Int} {t o : List Nat} {sk : AV} {kids : List Pt} {sc : AV} {cs : List Nd}, Pt.mk k t o sk kids sc cs ∈ ps → (sc, cs) ∈ allc ps ∧ ∀ c ∈ allc kids, c ∈ allc ps
  | p :: ps, k, t, o, sk, kids, sc, cs, hm => by
    obtain ⟨k', t', o', sk', kids', sc', cs'⟩ := p
    simp only [allc, List.mem_cons, List.mem_append]
    rcases List.mem_cons.mp hm with e | hm
    · injection e with e1 e2 e3 e4 e5 e6 e7
      subst e4 e5 e6 e7
      exact ⟨.inl rfl, fun c hc => .inr (.inl hc)⟩
    · obtain ⟨g1, g2⟩ := allc_mem hm
      exact ⟨.inr (.inr g1), fun c hc => .inr (.inr (g2 c hc))⟩
/-- Lists of commands that stand in parts. -/
def InP (ps : List Pt) (L : List (AV × List Nd)) : Prop := ∀ c ∈ L, c ∈ allc ps
theorem flat_map1 (L : List (AV × List Nd)) : (L.map fun c => [c.1]).flatten = L.map (·.1) := by
  induction L with
  | nil => rfl
  | cons c l ih => simp [ih]
theorem cmds66 : ∀ (N : Nat) {h : AH} {s : AV} {ps : List Pt}, szP ps ≤ N → szP ps ≤ 1048576 → okP h ps → Sl h s 5 (ps.map Pt.cells) → ∀ n, 8 * szP ps + 2 ≤ n →
    ∃ L, InP ps L ∧ L.length ≤ szP ps ∧ ∃ s2 h2, X n (.func 66) [s] h = some (s2, h2) ∧ Sl h2 s2 1 (L.map fun c => [c.1]) ∧ Quiet h h2 := by
  intro N
  induction N using Nat.strongRecOn
  rename_i N ih
  intro h s ps hN hb hv S n hn
  obtain ⟨m, rfl⟩ : ∃ m, n = m + 1 := ⟨n - 1, by omega⟩
  have hlen := szP_len ps
  have hl : alen Try.prog 58 s = some ps.length := by rw [S.alen u58, List.length_map]
  rw [ent66]
  unfold cd66
  simp (implicitDefEqProofs := false) only [run_seq, run_cond, opsS_cons, opsS_nil, sameH_f, sameH_t, run_block, run_loop, run_exit, run_ret, run_skip, ops_cons, ops_nil, ev_tmp, pureS_some, heapS_some, heapN_some, gdS_tt, gdS_ff, gdS_tf, gdS_ft, gdS_undef, List.getD_cons_succ, List.getD_cons_zero, List.set_cons_succ, List.set_cons_zero, Option.bind_some, regR_some, seqR_normal, seqR_ret, seqR_exit, fin0_ret, fin0_normal, fin1_ret, fin1_normal, finN_ret, finN_normal, List.map_cons, List.map_nil, lenV_some, pickV_t, pickV_f, callV_func, callV_yield, extV_tup, condR_true, condR_false, blockR_normal, blockR_ret, blockR_exit, if_true, List.nil_append, List.append_nil, List.cons_append, List.getElem?_cons_zero, List.getElem?_cons_succ, loopR_normal, loopR_exit, loopR_ret, Option.map_some, ite_true, reduceIte, reg66_0, st66_0_0, reg66_1, st66_1_0, reg66_2, st66_2_0, reg66_3, st66_3_0, st66_3_1, st66_3_2, st66_3_3, st66_3_4, st66_3_5, st66_3_6, st66_3_7, reg66_5, st66_5_0, st66_5_1, st66_5_2, st66_5_3, st66_5_4, st66_5_5, st66_5_6, reg66_6, st66_6_0, st66_6_1, st66_6_2, st66_6_3, st66_6_4, st66_6_5, st66_6_6, st66_6_7, st66_6_8, reg66_7, st66_7_0, st66_7_1, st66_7_2, st66_7_3, st66_7_4, st66_7_5, st66_7_6, st66_7_7, st66_7_8, reg66_4, st66_4_0, st66_4_1, st66_4_2, reg66_8, st66_8_0, st66_8_1]
  generalize hr : aloop _ _ _ _ _ = r
  revert r hr
  have endL : ∀ (t : AV) (h' : AH) (L : List (AV × List Nd)), Quiet h h' → Own h' t 1 (L.map (·.1)) h.next → InP ps L → L.length ≤ szP ps →
      ∃ L, InP ps L ∧ L.length ≤ szP ps ∧ ∃ s2 h2, nrm h (some (t, h')) = some (s2, h2) ∧ Sl h2 s2 1 (L.map fun c => [c.1]) ∧ Quiet h h2 := fun t h' L q o hL hLl => by
    rw [← flat_map1] at o
    obtain ⟨s2, h2, g1, g2, g3⟩ := nrm_own o q (fun x hx => by obtain ⟨c, _, rfl⟩ := List.mem_map.mp hx; rfl) (by omega) (fun a ha => by
      rw [flat_map1] at ha
      obtain ⟨c, hc, rfl⟩ := List.mem_map.mp ha
      exact (allc_ok hv c (hL c hc)).1.old)
    exact ⟨L, hL, hLl, s2, h2, g1, g2, g3⟩
  refine loop_all ps.length (fun i h' fr => ∃ t L, Quiet h h' ∧ Own h' t 1 (List.map (·.1) L) h.next ∧ InP ps L ∧ L.length ≤ szP (ps.take i) ∧ fr = C66_3 s t (.int .i64 (i : Int))) ?_ ?_ ⟨.nilSl, [], Other.refl _ _, Own.nil h 1 h.next, fun c hc => by simp at hc, Nat.zero_le _, by rw [cl66_3]; rfl⟩ (by omega)
  · rintro i h' fr hi ⟨t, L, q, o, hL, hLl, e⟩ k hk
    have hm : ps[i]? = some ps[i] := List.getElem?_eq_getElem hi
    have htk := take_next hi
    have hmem : ps[i] ∈ ps := List.getElem_mem hi
    have hx : (ps.map Pt.cells)[i]? = some ps[i].cells := by rw [List.getElem?_map, hm]; rfl
    obtain ⟨id, off, i1, H⟩ := S.ix u58 z78 hx
    have hsz := szP_mem hmem
    have hok := okP_mem hv _ hmem
    have htl := szP_take ps (i + 1)
    have hta : szP (ps.take (i + 1)) = szP (ps.take i) + ps[i].sz := by
      rw [htk]
      have : ∀ (a : List Pt) (x : Pt), szP (a ++ [x]) = szP a + x.sz := fun a x => by
        induction a with
        | nil => simp [szP]
        | cons y a ih => simp only [List.cons_append, szP, ih]; omega
      exact this _ _
    have htl0 := szP_take ps i
    generalize ps[i] = x at *
    obtain ⟨kd, tx, op, sk, kids, sc, cs⟩ := x
    simp only [Pt.ok] at hok
    obtain ⟨v1, v2, v3, v4⟩ := hok
    simp only [Pt.sz] at hsz hta
    have d : decide ((i : Int) < (ps.length : Int)) = true := by simp; omega
    have w := wrap_succ i (by omega)
    rw [e]
    by_cases hz : (i : Int) < 1000
    · have d2 : decide ((i : Int) < 1000) = true := by simp; omega
      have H1 := H.quiet q
      have c4 : h'.cell? id (off + 4) = some sc := H1.cell (i := 4) rfl
      have hl4 : alen Try.prog 47 sc = some cs.length := by rw [v3.alen u47, List.length_map]
      have fin : ∀ (t1 : AV) (h1 : AH) (L1 : List (AV × List Nd)), Quiet h h1 → Own h1 t1 1 (L1.map (·.1)) h.next → InP ps L1 → L1.length ≤ szP (ps.take i) + 1 → ∃ L2 s2 h2 s3 h3,
          h1.cell? id (off + 3) = some sk ∧ X m (.func 66) [sk] h1 = some (s2, h2) ∧ aappend Try.prog 89 89 t1 s2 h2 = some (s3, h3) ∧ Quiet h h3 ∧ Own h3 s3 1 (List.map (·.1) L2) h.next ∧ InP ps L2 ∧ L2.length ≤ szP (ps.take (i + 1)) := by
        intro t1 h1 L1 q1 o1 hL1 hl1
        have hkd : okP h1 kids := okP.quiet q1 v2
        obtain ⟨L2, g1, g2, s2, h2, r1, r2, r3⟩ := ih (N - 1) (by omega) (h := h1) (s := sk) (ps := kids) (by omega) (by omega) hkd (v1.quiet q1) m (by omega)
        obtain ⟨s3, h3, p1, p2, p3, _⟩ := own_app (o1.quiet r3) (Nat.le_trans q1.next r3.next) el47 u89 u89 rfl r2.alenOf (by rw [r2.first, flat_map1]) (by simp) (atoms_map _ _ fun c hc => (allc_ok hkd c (g1 c hc)).1.atom) (by simp; omega)
        refine ⟨L1 ++ L2, s2, h2, s3, h3, (H.quiet q1).cell (i := 3) rfl, r1, p1, (q1.trans r3).beyond p3, by rw [List.map_append]; exact p2, fun c hc => ?_, by rw [List.length_append]; omega⟩
        rcases List.mem_append.mp hc with hc | hc
        · exact hL1 c hc
        · exact (allc_mem hmem).2 c (g1 c hc)
      by_cases hc0 : cs.length = 0
      · have d3 : decide (((cs.length : Nat) : Int) > 0) = false := by simp [hc0]
        obtain ⟨L2, s2, h2, s3, h3, f1, f2, f3, f4, f5, f6, f7⟩ := fin t h' L q o hL (by omega)
        unfold C66_3 lp66_3
        simp (implicitDefEqProofs := false) only [run_seq, run_cond, opsS_cons, opsS_nil, sameH_f, sameH_t, run_block, run_loop, run_exit, run_ret, run_skip, ops_cons, ops_nil, ev_tmp, pureS_some, heapS_some, heapN_some, gdS_tt, gdS_ff, gdS_tf, gdS_ft, gdS_undef, List.getD_cons_succ, List.getD_cons_zero, List.set_cons_succ, List.set_cons_zero, Option.bind_some, regR_some, seqR_normal, seqR_ret, seqR_exit, fin0_ret, fin0_normal, fin1_ret, fin1_normal, finN_ret, finN_normal, List.map_cons, List.map_nil, lenV_some, pickV_t, pickV_f, callV_func, callV_yield, extV_tup, condR_true, condR_false, blockR_normal, blockR_ret, blockR_exit, if_true, List.nil_append, List.append_nil, List.cons_append, List.getElem?_cons_zero, List.getElem?_cons_succ, loopR_normal, loopR_exit, loopR_ret, Option.map_some, ite_true, reduceIte, reg66_0, st66_0_0, reg66_1, st66_1_0, reg66_2, st66_2_0, reg66_3, st66_3_0, st66_3_1, st66_3_2, st66_3_3, st66_3_4, st66_3_5, st66_3_6, st66_3_7, reg66_5, st66_5_0, st66_5_1, st66_5_2, st66_5_3, st66_5_4, st66_5_5, st66_5_6, reg66_6, st66_6_0, st66_6_1, st66_6_2, st66_6_3, st66_6_4, st66_6_5, st66_6_6, st66_6_7, st66_6_8, reg66_7, st66_7_0, st66_7_1, st66_7_2, st66_7_3, st66_7_4, st66_7_5, st66_7_6, st66_7_7, st66_7_8, reg66_4, st66_4_0, st66_4_1, st66_4_2, reg66_8, st66_8_0, st66_8_1, fa49_0, fa49_1, fa49_2, fa49_3, fa49_4, fa49_5, fa49_6, fa49_7, fa49_8, fa49_9, fa60_0, fa73_0, fa73_1, fa73_2, fa73_3, fa76_0, fa76_1, fa78_0, fa78_1, fa78_2, fa78_3, fa78_4, hl, i_lss, i_gtr, d, d2, i1, ld47, ld58, c4, hl4, d3, f1, f2, f3, i_add, w]
        exact hk _ _ ⟨s3, L2, f4, f5, f6, f7, by rw [cl66_3]⟩
      · have d3 : decide (((cs.length : Nat) : Int) > 0) = true := by simp; omega
        have hat : sc.atom = true := v3.atom
        have b1 := bsl47 h' sc hat
        obtain ⟨t1, h1, p1, p2, p3, _⟩ := own_app (x := .sl h'.next 0 1 1 (some 1)) (new := [sc]) (n := 1) (o.quiet (Other.alloc _ h' [sc])) (Nat.le_trans q.next (Nat.le_succ _)) el47 u89 u89 rfl rfl ((sl_one sc (some 1)).first) rfl (by simp [atoms, hat]) (by simp; omega)
        obtain ⟨L2, s2, h2, s3, h3, f1, f2, f3, f4, f5, f6, f7⟩ := fin t1 h1 (L ++ [(sc, cs)]) ((q.more [sc]).beyond p3) (by simpa using p2) (fun c hc => by
          rcases List.mem_append.mp hc with hc | hc
          · exact hL c hc
          · simp only [List.mem_singleton] at hc; subst hc; exact (allc_mem hmem).1) (by simp; omega)
        unfold C66_3 lp66_3
        simp (implicitDefEqProofs := false) only [run_seq, run_cond, opsS_cons, opsS_nil, sameH_f, sameH_t, run_block, run_loop, run_exit, run_ret, run_skip, ops_cons, ops_nil, ev_tmp, pureS_some, heapS_some, heapN_some, gdS_tt, gdS_ff, gdS_tf, gdS_ft, gdS_undef, List.getD_cons_succ, List.getD_cons_zero, List.set_cons_succ, List.set_cons_zero, Option.bind_some, regR_some, seqR_normal, seqR_ret, seqR_exit, fin0_ret, fin0_normal, fin1_ret, fin1_normal, finN_ret, finN_normal, List.map_cons, List.map_nil, lenV_some, pickV_t, pickV_f, callV_func, callV_yield, extV_tup, condR_true, condR_false, blockR_normal, blockR_ret, blockR_exit, if_true, List.nil_append, List.append_nil, List.cons_append, List.getElem?_cons_zero, List.getElem?_cons_succ, loopR_normal, loopR_exit, loopR_ret, Option.map_some, ite_true, reduceIte, reg66_0, st66_0_0, reg66_1, st66_1_0, reg66_2, st66_2_0, reg66_3, st66_3_0, st66_3_1, st66_3_2, st66_3_3, st66_3_4, st66_3_5, st66_3_6, st66_3_7, reg66_5, st66_5_0, st66_5_1, st66_5_2, st66_5_3, st66_5_4, st66_5_5, st66_5_6, reg66_6, st66_6_0, st66_6_1, st66_6_2, st66_6_3, st66_6_4, st66_6_5, st66_6_6, st66_6_7, st66_6_8, reg66_7, st66_7_0, st66_7_1, st66_7_2, st66_7_3, st66_7_4, st66_7_5, st66_7_6, st66_7_7, st66_7_8, reg66_4, st66_4_0, st66_4_1, st66_4_2, reg66_8, st66_8_0, st66_8_1, fa49_0, fa49_1, fa49_2, fa49_3, fa49_4, fa49_5, fa49_6, fa49_7, fa49_8, fa49_9, fa60_0, fa73_0, fa73_1, fa73_2, fa73_3, fa76_0, fa76_1, fa78_0, fa78_1, fa78_2, fa78_3, fa78_4, hl, i_lss, i_gtr, d, d2, i1, ld47, ld58, c4, hl4, d3, b1, p1, f1, f2, f3, i_add, w]
        exact hk _ _ ⟨s3, L2, f4, f5, f6, f7, by rw [cl66_3]⟩
    · have d2 : decide ((i : Int) < 1000) = false := by simp; omega
      unfold C66_3 lp66_3
      simp (implicitDefEqProofs := false) only [run_seq, run_cond, opsS_cons, opsS_nil, sameH_f, sameH_t, run_block, run_loop, run_exit, run_ret, run_skip, ops_cons, ops_nil, ev_tmp, pureS_some, heapS_some, heapN_some, gdS_tt, gdS_ff, gdS_tf, gdS_ft, gdS_undef, List.getD_cons_succ, List.getD_cons_zero, List.set_cons_succ, List.set_cons_zero, Option.bind_some, regR_some, seqR_normal, seqR_ret, seqR_exit, fin0_ret, fin0_normal, fin1_ret, fin1_normal, finN_ret, finN_normal, List.map_cons, List.map_nil, lenV_some, pickV_t, pickV_f, callV_func, callV_yield, extV_tup, condR_true, condR_false, blockR_normal, blockR_ret, blockR_exit, if_true, List.nil_append, List.append_nil, List.cons_append, List.getElem?_cons_zero, List.getElem?_cons_succ, loopR_normal, loopR_exit, loopR_ret, Option.map_some, ite_true, reduceIte, reg66_0, st66_0_0, reg66_1, st66_1_0, reg66_2, st66_2_0, reg66_3, st66_3_0, st66_3_1, st66_3_2, st66_3_3, st66_3_4, st66_3_5, st66_3_6, st66_3_7, reg66_5, st66_5_0, st66_5_1, st66_5_2, st66_5_3, st66_5_4, st66_5_5, st66_5_6, reg66_6, st66_6_0, st66_6_1, st66_6_2, st66_6_3, st66_6_4, st66_6_5, st66_6_6, st66_6_7, st66_6_8, reg66_7, st66_7_0, st66_7_1, st66_7_2, st66_7_3, st66_7_4, st66_7_5, st66_7_6, st66_7_7, st66_7_8, reg66_4, st66_4_0, st66_4_1, st66_4_2, reg66_8, st66_8_0, st66_8_1, hl, i_lss, d, d2]
      exact endL t h' L q o hL (by omega)
  · rintro h' fr ⟨t, L, q, o, hL, hLl, e⟩ k
    have d : decide ((ps.length : Int) < (ps.length : Int)) = false := by simp
    rw [e]
    unfold C66_3 lp66_3
    simp (implicitDefEqProofs := false) only [run_seq, run_cond, opsS_cons, opsS_nil, sameH_f, sameH_t, run_block, run_loop, run_exit, run_ret, run_skip, ops_cons, ops_nil, ev_tmp, pureS_some, heapS_some, heapN_some, gdS_tt, gdS_ff, gdS_tf, gdS_ft, gdS_undef, List.getD_cons_succ, List.getD_cons_zero, List.set_cons_succ, List.set_cons_zero, Option.bind_some, regR_some, seqR_normal, seqR_ret, seqR_exit, fin0_ret, fin0_normal, fin1_ret, fin1_normal, finN_ret, finN_normal, List.map_cons, List.map_nil, lenV_some, pickV_t, pickV_f, callV_func, callV_yield, extV_tup, condR_true, condR_false, blockR_normal, blockR_ret, blockR_exit, if_true, List.nil_append, List.append_nil, List.cons_append, List.getElem?_cons_zero, List.getElem?_cons_succ, loopR_normal, loopR_exit, loopR_ret, Option.map_some, ite_true, reduceIte, reg66_0, st66_0_0, reg66_1, st66_1_0, reg66_2, st66_2_0, reg66_3, st66_3_0, st66_3_1, st66_3_2, st66_3_3, st66_3_4, st66_3_5, st66_3_6, st66_3_7, reg66_5, st66_5_0, st66_5_1, st66_5_2, st66_5_3, st66_5_4, st66_5_5, st66_5_6, reg66_6, st66_6_0, st66_6_1, st66_6_2, st66_6_3, st66_6_4, st66_6_5, st66_6_6, st66_6_7, st66_6_8, reg66_7, st66_7_0, st66_7_1, st66_7_2, st66_7_3, st66_7_4, st66_7_5, st66_7_6, st66_7_7, st66_7_8, reg66_4, st66_4_0, st66_4_1, st66_4_2, reg66_8, st66_8_0, st66_8_1, hl, i_lss, d]
    rw [List.take_length] at hLl
    exact endL t h' L q o hL hLl
end Go.Proofs.Ytgnacecplaemlaa
